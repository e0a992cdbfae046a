/- PackBytes and PackedSize of the program and of the reference. -/
import Derived.Test.YtdbbdoldndnbhaaDoorZHx1
import Derived.Lib.AppendStr
import Derived.Lib.ConvBytes
import Derived.Laws.CopyOwn
import Derived.Laws.BytesArg
import Derived.Laws.BitsAllLaws
import Derived.Deep.RegionHeld3
import Derived.StillTailTactics
set_option linter.unusedVariables false
set_option linter.unusedSimpArgs false
namespace Go.Proofs.YtdbbdoldndnbhaaDoor
open Go.RowKit Go.Sort

theorem get_some {l : List UInt8} {i : Nat} (h : i < l.length) : l[i]? = some l[i] := List.getElem?_eq_getElem h
set_option maxRecDepth 100000 in
set_option maxHeartbeats 1000000 in
theorem iStartsRun_c (A : Option Addr) (l : List UInt8) (c : Nat) (a : Nat) (w : World) (h : Bs w A l c) (ha : a ≤ l.length) :
    Gives Tryd.prog 88 #[.slice A l.length c, .int .i64 a] w (.bool (decide (3 ≤ runAt l a))) := by
  have hl := h.len
  by_cases h2 : a + 2 < l.length
  · obtain ⟨b, off, rfl, hb, hcs⟩ := h.base (by omega)
    have hc0 := fun w' e => hcs w' e a (by omega)
    have hc1 := fun w' e => hcs w' e (a+1) (by omega)
    have hc2 := fun w' e => hcs w' e (a+2) (by omega)
    have hd : decide ((a : Int) + 2 < (l.length : Int)) = true := by simp; omega
    have hr : Hid (decide (3 ≤ runAt l a) = ((l[a].toNat : Int) == (l[a+1].toNat : Int) && ((l[a].toNat : Int) == (l[a+2].toNat : Int)))) := by
      show _ = _
      have e1 : (l[a].toNat : Int) = (l[a+1].toNat : Int) ↔ l[a] = l[a+1] := ⟨fun e => u8_inj e, fun e => by rw [e]⟩
      have e2 : (l[a].toNat : Int) = (l[a+2].toNat : Int) ↔ l[a] = l[a+2] := ⟨fun e => u8_inj e, fun e => by rw [e]⟩
      rw [Bool.eq_iff_iff]
      simp only [decide_eq_true_eq, Bool.and_eq_true, beq_iff_eq, e1, e2, run3, get_some (show a < l.length by omega), get_some (show a + 1 < l.length by omega), get_some h2, Option.some.injEq, h2, true_and]
    clear hcs
    cases d1 : ((l[a].toNat : Int) == (l[a+1].toNat : Int))
    all_goals
      go_enter Tryd.func88, Tryd.ntmps88
      go_wp2
      refine wp_region_quiet_below (by kernel_rfl) (by kernel_rfl) ?_
      repeat (go_big_quiet_step (fail))
      refine wpQuiet_nil ?_
      rintro _ ⟨⟨nq, osq⟩, rfl⟩
      go_wp2
      go_ret
      exact ⟨ret_bool (by rw [hr.out, d1]; simp), Ext_regrown _ _ (Ext.refl w)⟩
  · have hd : decide ((a : Int) + 2 < (l.length : Int)) = false := by simp; omega
    have hr : Hid (decide (3 ≤ runAt l a) = false) := by
      show _ = _
      rw [decide_eq_false_iff_not, run3]; omega
    go_enter Tryd.func88, Tryd.ntmps88
    go_wp2
    refine wp_region_quiet_below (by kernel_rfl) (by kernel_rfl) ?_
    repeat (go_big_quiet_step (fail))
    refine wpQuiet_nil ?_
    rintro _ ⟨⟨nq, osq⟩, rfl⟩
    go_wp2
    go_ret
    exact ⟨ret_bool hr.out.symm, Ext_regrown _ _ (Ext.refl w)⟩

theorem vu8_ofNat {n : Nat} (h : n < 256) : vu8 (UInt8.ofNat n) = .int .u8 (n : Int) := by
  have : (UInt8.ofNat n).toNat = n := by simp; omega
  simp only [vu8, this]
theorem wrapByte {n : Nat} (h : n < 256) : Value.int .u8 (IntKind.u8.wrap (n : Int)) = vu8 (UInt8.ofNat n) := by
  have : (UInt8.ofNat n).toNat = n := by simp; omega
  simp only [vu8, this]
  congr 1
  unfold IntKind.wrap
  simp [IntKind.bits, IntKind.signed]
  omega

set_option maxRecDepth 100000 in
set_option maxHeartbeats 2000000 in
theorem iPackBytes_c (A : Option Addr) (l : List UInt8) (c : Nat) (w : World) (h : Bs w A l c) (hL : l.length ≤ 1073741824) :
    Calls Tryd.prog 67 #[.slice A l.length c] w fun e w' => ∃ v, e = .returned v ∧ OwnL vu8 5 w w' v (pack l) ∧ Ext w w' := by
  have hl := h.len
  have hcap := h.cap
  go_enter Tryd.func67, Tryd.ntmps67
  go_wp2
  go_loopw [3, 4] (fun t i wr => ∃ (a : Nat) (out : List UInt8), a ≤ l.length ∧ i = .int .i64 a ∧ OwnL vu8 5 w wr t out ∧ Hid (out ++ packAt l a = pack l) ∧ Ext w wr) (fun _ i _ => l.length - (intOf i).toNat)
  case atStart => exact ⟨0, [], by omega, rfl, OwnL.empty (Ext.refl _), by simp [Hid, pack], Ext_alloc _ (Ext.refl _)⟩
  case round =>
    obtain ⟨a, out, ha, rfl, ho, hs, he⟩ := hrel
    have hout : out.length ≤ 2 * l.length := by have h1 := congrArg List.length hs.out; have h2 := pack_le l; rw [List.length_append] at h1; omega
    by_cases hlt : a < l.length
    · obtain ⟨b, off, rfl, hb, hcs⟩ := h.base (by omega)
      obtain ⟨r1, r2, _⟩ := runAt_spec l a hlt
      by_cases hr : 3 ≤ runAt l a
      · have hc := fun w' e => hcs w' e a hlt
        have hd : decide (3 ≤ runAt l a) = true := by simp [hr]
        have HD := Lib.hid hd; clear hd
        have HS : Hid (out ++ [UInt8.ofNat (128 + min (runAt l a) 127), l[a]] ++ packAt l (a + min (runAt l a) 127) = pack l) := by
          have := hs.out; rw [packAt_run hlt hr] at this; show _ = _; rw [← this]; simp
        have HM : Hid ((if (127 : Int) < (runAt l a : Int) then 127 else (runAt l a : Int)) = ((min (runAt l a) 127 : Nat) : Int)) := by
          show _ = _; split <;> omega
        generalize hM : min (runAt l a) 127 = M at *
        have hM1 : 3 ≤ M := by omega
        have hM2 : M ≤ 127 := by omega
        have hM3 : a + M ≤ l.length := by omega
        clear hM hs hcs
        have HCS : Hid (#[Value.int .u8 (128 + (M : Int)), Value.int .u8 (l[a].toNat : Int)] = ([UInt8.ofNat (128 + M), l[a]].map vu8).toArray) := by
          show _ = _
          simp only [List.map_cons, List.map_nil, vu8_ofNat (n := 128 + M) (by omega)]
          simp [vu8]
        have HB : Hid ((out.length + [UInt8.ofNat (128 + M), l[a]].length) * 1 ≤ 140737488355328) := by show _ ≤ _; simp only [List.length_cons, List.length_nil]; omega
        go_wp2_with fail
        refine (iStartsRun_c _ l c a _ (h.ext he) ha).mono ?_; rintro _ w1 ⟨rfl, he1⟩; rw [HD.out]
        go_wp2_with fail
        refine (iRunAt_c _ l c a _ ((h.ext he).ext he1)).mono ?_; rintro _ w2 ⟨rfl, he2⟩
        go_wp2_with fail
        refine (iMin_c _ _ _).mono ?_; rintro _ w3 ⟨rfl, he3⟩; rw [HM.out]
        have e3 := (he1.trans he2).trans he3
        have ho3 := ho.ext e3; have eb := he.trans e3
        clear he1 he2 he3 e3 ho he
        go_wp2_with (first
          | (at_builtin; go_must (refine wpList_appN rfl (.tmp 19) (.tmp 27) _ rfl E_u8 (by omega) w _ vu8 (fun _ => rfl) _ rfl _ _ rfl out [UInt8.ofNat (128 + M), l[a]] _ HCS.out ho3 eb rfl HB.out ?_); intro v4 w4 ho4 he4))
        go_roundw
        case rel => exact ⟨a + M, out ++ [UInt8.ofNat (128 + M), l[a]], by omega, by go_num, ho4, HS, he4⟩
        case measure => simp [intOf]; omega
      · have hd : decide (3 ≤ runAt l a) = false := by simp; omega
        have HD := Lib.hid hd; clear hd
        have HS : Hid (out ++ UInt8.ofNat (litEnd l a (a+1) - a) :: ((l.drop a).take (litEnd l a (a+1) - a) ++ packAt l (litEnd l a (a+1))) = pack l) := by
          have := hs.out; rw [packAt_lit hlt hr, litEnd_gt hlt (by omega)] at this; exact this
        have hE1 := litEnd_ge l a (a+1)
        have hE2 := (litEnd_le (l := l) (a := a) (k := a+1) (by omega) (by omega)).1
        have hE3 := (litEnd_le (l := l) (a := a) (k := a+1) (by omega) (by omega)).2
        generalize hE : litEnd l a (a+1) = E at *
        have HE := Lib.hid hE; clear hE hs
        go_wp2_with fail
        refine (iStartsRun_c _ l c a _ (h.ext he) ha).mono ?_; rintro _ w1 ⟨rfl, he1⟩; rw [HD.out]
        have ho1 := ho.ext he1; have eb := he.trans he1
        clear ho he he1
        go_wp2
        go_loopw [6] (fun i wq => ∃ k : Nat, a + 1 ≤ k ∧ k ≤ l.length ∧ k - a ≤ 127 ∧ i = .int .i64 k ∧ Hid (litEnd l a k = E) ∧ Ext w1 wq) (fun i _ => l.length - (intOf i).toNat)
        case atStart => exact ⟨a + 1, by omega, by omega, by omega, by go_num, HE, Ext.refl _⟩
        case round =>
          obtain ⟨k, hk1, hk2, hk3, rfl, hk, he⟩ := hrel
          by_cases hc : k < l.length ∧ k - a < 127 ∧ runAt l k < 3
          · obtain ⟨c1, c2, c3⟩ := hc
            have d1 : decide ((k : Int) < (l.length : Int)) = true := by simp; omega
            have d2 : decide ((k : Int) - (a : Int) < 127) = true := by simp; omega
            have d3 : decide (3 ≤ runAt l k) = false := by simp; omega
            have D3 := Lib.hid d3; clear d3
            have HK := Lib.hid ((litEnd_step ⟨c1, c2, c3⟩).symm.trans hk.out)
            go_wp2_with (go_at_call 88; refine (iStartsRun_c _ l c k _ ((h.ext eb).ext he) (by omega)).mono ?_; rintro _ w2 ⟨rfl, he2⟩; rw [D3.out])
            go_roundw
            case rel => exact ⟨k + 1, by omega, by omega, by omega, by go_num, HK, he.trans he2⟩
            case measure => simp [intOf]; omega
          · obtain rfl : k = E := (litEnd_stop hc).symm.trans hk.out
            clear hk HE
            have HCS : Hid (#[Value.int .u8 ((k : Int) - (a : Int))] = ([UInt8.ofNat (k - a)].map vu8).toArray) := by
              show _ = _
              simp only [List.map_cons, List.map_nil, vu8_ofNat (n := k - a) (by omega)]
              rw [show (((k - a : Nat) : Int)) = (k : Int) - (a : Int) by omega]
            have HB : Hid ((out.length + [UInt8.ofNat (k - a)].length) * 1 ≤ 140737488355328) := by show _ ≤ _; simp only [List.length_cons, List.length_nil]; omega
            have HL : Hid (k - a = ((l.drop a).take (k - a)).length) := by show _ = _; simp; omega
            have HB2 : Hid (((out ++ [UInt8.ofNat (k - a)]).length + ((l.drop a).take (k - a)).length) * 1 ≤ 140737488355328) := by show _ ≤ _; rw [← HL.out]; simp; omega
            have HS2 : Hid ((out ++ [UInt8.ofNat (k - a)]) ++ (l.drop a).take (k - a) ++ packAt l k = pack l) := by show _ = _; rw [← HS.out]; simp
            have HP := Lib.hid (fun w' e => part_cells (hcs w' e) a (k - a))
            clear hcs HS
            rcases (by omega : ¬ k < l.length ∨ (k < l.length ∧ ¬ k - a < 127) ∨ (k < l.length ∧ k - a < 127 ∧ ¬ runAt l k < 3)) with c1 | ⟨c1, c2⟩ | ⟨c1, c2, c3⟩
            · have d1 : decide (k < l.length) = false := by simp; omega
              clear c1 hc
              go_wp2_with (first
                | (go_at_call 88; go_must (refine (iStartsRun_c _ l c k _ ((h.ext eb).ext he) (by omega)).mono ?_); rintro _ w2 ⟨rfl, he2⟩; rw [D3.out]; have he := he.trans he2)
                | (at_builtin; refine wpList_appN rfl (.tmp 52) (.tmp 57) _ rfl E_u8 (by omega) w _ vu8 (fun _ => rfl) _ rfl _ _ rfl out [UInt8.ofNat (k - a)] _ HCS.out (ho1.ext (by assumption)) (eb.trans (by assumption)) rfl HB.out ?_; intro v4 w4 ho4 he4)
                | (at_builtin; refine wpList_appL rfl (.tmp 59) (.tmp 63) _ rfl E_u8 (by omega) w _ vu8 (fun _ => rfl) v4 rfl _ _ _ rfl (out ++ [UInt8.ofNat (k - a)]) ((l.drop a).take (k - a)) ho4 he4 HL.out (fun _ => ⟨_, rfl, HP.out _ he4⟩) HB2.out ?_; intro v5 w5 ho5 he5 _ _))
              go_roundw
              case rel => exact ⟨k, (out ++ [UInt8.ofNat (k - a)]) ++ (l.drop a).take (k - a), by omega, rfl, ho5, HS2, he5⟩
              case measure => simp [intOf]; omega
            · have d1 : decide ((k : Int) < (l.length : Int)) = true := by simp; omega
              have d2 : decide ((k : Int) - (a : Int) < 127) = false := by simp; omega
              clear hc
              go_wp2_with (first
                | (go_at_call 88; go_must (refine (iStartsRun_c _ l c k _ ((h.ext eb).ext he) (by omega)).mono ?_); rintro _ w2 ⟨rfl, he2⟩; rw [D3.out]; have he := he.trans he2)
                | (at_builtin; refine wpList_appN rfl (.tmp 52) (.tmp 57) _ rfl E_u8 (by omega) w _ vu8 (fun _ => rfl) _ rfl _ _ rfl out [UInt8.ofNat (k - a)] _ HCS.out (ho1.ext (by assumption)) (eb.trans (by assumption)) rfl HB.out ?_; intro v4 w4 ho4 he4)
                | (at_builtin; refine wpList_appL rfl (.tmp 59) (.tmp 63) _ rfl E_u8 (by omega) w _ vu8 (fun _ => rfl) v4 rfl _ _ _ rfl (out ++ [UInt8.ofNat (k - a)]) ((l.drop a).take (k - a)) ho4 he4 HL.out (fun _ => ⟨_, rfl, HP.out _ he4⟩) HB2.out ?_; intro v5 w5 ho5 he5 _ _))
              go_roundw
              case rel => exact ⟨k, (out ++ [UInt8.ofNat (k - a)]) ++ (l.drop a).take (k - a), by omega, rfl, ho5, HS2, he5⟩
              case measure => simp [intOf]; omega
            · have d1 : decide ((k : Int) < (l.length : Int)) = true := by simp; omega
              have d2 : decide ((k : Int) - (a : Int) < 127) = true := by simp; omega
              have d3 : decide (3 ≤ runAt l k) = true := by simp; omega
              have D3 := Lib.hid d3; clear d3
              clear hc
              go_wp2_with (first
                | (go_at_call 88; go_must (refine (iStartsRun_c _ l c k _ ((h.ext eb).ext he) (by omega)).mono ?_); rintro _ w2 ⟨rfl, he2⟩; rw [D3.out]; have he := he.trans he2)
                | (at_builtin; refine wpList_appN rfl (.tmp 52) (.tmp 57) _ rfl E_u8 (by omega) w _ vu8 (fun _ => rfl) _ rfl _ _ rfl out [UInt8.ofNat (k - a)] _ HCS.out (ho1.ext (by assumption)) (eb.trans (by assumption)) rfl HB.out ?_; intro v4 w4 ho4 he4)
                | (at_builtin; refine wpList_appL rfl (.tmp 59) (.tmp 63) _ rfl E_u8 (by omega) w _ vu8 (fun _ => rfl) v4 rfl _ _ _ rfl (out ++ [UInt8.ofNat (k - a)]) ((l.drop a).take (k - a)) ho4 he4 HL.out (fun _ => ⟨_, rfl, HP.out _ he4⟩) HB2.out ?_; intro v5 w5 ho5 he5 _ _))
              go_roundw
              case rel => exact ⟨k, (out ++ [UInt8.ofNat (k - a)]) ++ (l.drop a).take (k - a), by omega, rfl, ho5, HS2, he5⟩
              case measure => simp [intOf]; omega
    · go_wp2
      go_ret
      have := hs.out; rw [packAt_end (by omega)] at this
      exact ⟨_, rfl, by simpa [← this] using ho, he⟩

set_option maxRecDepth 100000 in
set_option maxHeartbeats 2000000 in
theorem sPackBytes_c (A : Option Addr) (l : List UInt8) (c : Nat) (w : World) (h : Bs w A l c) (hL : l.length ≤ 1073741824) :
    Calls Tryd.prog 110 #[.slice A l.length c] w fun e w' => ∃ v, e = .returned v ∧ OwnL vu8 5 w w' v (pack l) ∧ Ext w w' := by
  have hl := h.len
  have hcap := h.cap
  go_enter Tryd.func110, Tryd.ntmps110
  go_wp2
  go_loopw [3, 4] (fun t i wr => ∃ (a : Nat) (out : List UInt8), a ≤ l.length ∧ i = .int .i64 a ∧ OwnL vu8 5 w wr t out ∧ Hid (out ++ packAt l a = pack l) ∧ Ext w wr) (fun _ i _ => l.length - (intOf i).toNat)
  case atStart => exact ⟨0, [], by omega, rfl, OwnL.empty (Ext.refl _), by simp [Hid, pack], Ext_alloc _ (Ext.refl _)⟩
  case round =>
    obtain ⟨a, out, ha, rfl, ho, hs, he⟩ := hrel
    have hout : out.length ≤ 2 * l.length := by have h1 := congrArg List.length hs.out; have h2 := pack_le l; rw [List.length_append] at h1; omega
    by_cases hlt : a < l.length
    · obtain ⟨b, off, rfl, hb, hcs⟩ := h.base (by omega)
      obtain ⟨r1, r2, _⟩ := runAt_spec l a hlt
      by_cases hr : 3 ≤ runAt l a
      · have hc := fun w' e => hcs w' e a hlt
        have hw : (Lit.int .i64 (a : Int)).wf = true := WalkArith.wf_i64 (by omega)
        have HS : Hid (out ++ [UInt8.ofNat (128 + min (runAt l a) 127), l[a]] ++ packAt l (a + min (runAt l a) 127) = pack l) := by
          have := hs.out; rw [packAt_run hlt hr] at this; show _ = _; rw [← this]; simp
        have HM : Hid ((if (127 : Int) < (runAt l a : Int) then 127 else (runAt l a : Int)) = ((min (runAt l a) 127 : Nat) : Int)) := by
          show _ = _; split <;> omega
        generalize hM : min (runAt l a) 127 = M at *
        have hM1 : 3 ≤ M := by omega
        have hM2 : M ≤ 127 := by omega
        have hM3 : a + M ≤ l.length := by omega
        clear hM hs hcs
        have HCS : Hid (#[Value.int .u8 (128 + (M : Int)), Value.int .u8 (l[a].toNat : Int)] = ([UInt8.ofNat (128 + M), l[a]].map vu8).toArray) := by
          show _ = _
          simp only [List.map_cons, List.map_nil, vu8_ofNat (n := 128 + M) (by omega)]
          simp [vu8]
        have HB : Hid ((out.length + [UInt8.ofNat (128 + M), l[a]].length) * 1 ≤ 140737488355328) := by show _ ≤ _; simp only [List.length_cons, List.length_nil]; omega
        go_wp2_with fail
        refine (sRunAt_c _ l c a _ (h.ext he) hw).mono ?_; rintro _ w2 ⟨rfl, he2⟩
        go_wp2_with fail
        refine (sMin_c _ _ _).mono ?_; rintro _ w3 ⟨rfl, he3⟩; rw [HM.out]
        have e3 := he2.trans he3
        have ho3 := ho.ext e3; have eb := he.trans e3
        clear he2 he3 e3 ho he
        go_wp2_with (first
          | (at_builtin; go_must (refine wpList_appN rfl (.tmp 18) (.tmp 26) _ rfl E_u8 (by omega) w _ vu8 (fun _ => rfl) _ rfl _ _ rfl out [UInt8.ofNat (128 + M), l[a]] _ HCS.out ho3 eb rfl HB.out ?_); intro v4 w4 ho4 he4))
        go_roundw
        case rel => exact ⟨a + M, out ++ [UInt8.ofNat (128 + M), l[a]], by omega, by go_num, ho4, HS, he4⟩
        case measure => simp [intOf]; omega
      · have hw : (Lit.int .i64 (a : Int)).wf = true := WalkArith.wf_i64 (by omega)
        have HM : Hid ((if (127 : Int) < (runAt l a : Int) then 127 else (runAt l a : Int)) = (runAt l a : Int)) := by
          show _ = _; split <;> omega
        have HS : Hid (out ++ UInt8.ofNat (litEnd l a (a+1) - a) :: ((l.drop a).take (litEnd l a (a+1) - a) ++ packAt l (litEnd l a (a+1))) = pack l) := by
          have := hs.out; rw [packAt_lit hlt hr, litEnd_gt hlt (by omega)] at this; exact this
        have hE1 := litEnd_ge l a (a+1)
        have hE2 := (litEnd_le (l := l) (a := a) (k := a+1) (by omega) (by omega)).1
        have hE3 := (litEnd_le (l := l) (a := a) (k := a+1) (by omega) (by omega)).2
        generalize hE : litEnd l a (a+1) = E at *
        have HE := Lib.hid hE; clear hE hs
        have HE0 : Hid (litEnd l a a = E) := (litEnd_gt hlt (by omega)).trans HE.out
        go_wp2_with fail
        refine (sRunAt_c _ l c a _ (h.ext he) hw).mono ?_; rintro _ w2 ⟨rfl, he2⟩
        go_wp2_with fail
        refine (sMin_c _ _ _).mono ?_; rintro _ w1 ⟨rfl, he3⟩; rw [HM.out]
        have ho1 := (ho.ext he2).ext he3; have eb := (he.trans he2).trans he3
        have hr2 : (runAt l a : Int) < 3 := by omega
        clear ho he he2 he3
        go_wp2
        go_loopw [6] (fun i wq => ∃ k : Nat, a ≤ k ∧ k ≤ l.length ∧ k - a ≤ 127 ∧ i = .int .i64 k ∧ Hid (litEnd l a k = E) ∧ Ext w1 wq) (fun i _ => l.length - (intOf i).toNat)
        case atStart => exact ⟨a, by omega, by omega, by omega, rfl, HE0, Ext.refl _⟩
        case round =>
          obtain ⟨k, hk1, hk2, hk3, rfl, hk, he⟩ := hrel
          by_cases hc : k < l.length ∧ k - a < 127 ∧ runAt l k < 3
          · obtain ⟨c1, c2, c3⟩ := hc
            have d1 : decide ((k : Int) < (l.length : Int)) = true := by simp; omega
            have d2 : decide ((k : Int) - (a : Int) < 127) = true := by simp; omega
            have d3 : (runAt l k : Int) < 3 := by omega
            have hwk : (Lit.int .i64 (k : Int)).wf = true := WalkArith.wf_i64 (by omega)
            have HK := Lib.hid ((litEnd_step ⟨c1, c2, c3⟩).symm.trans hk.out)
            go_wp2_with (go_at_call 127; refine (sRunAt_c _ l c k _ ((h.ext eb).ext he) hwk).mono ?_; rintro _ w2 ⟨rfl, he2⟩)
            go_roundw
            case rel => exact ⟨k + 1, by omega, by omega, by omega, by go_num, HK, he.trans he2⟩
            case measure => simp [intOf]; omega
          · obtain rfl : k = E := (litEnd_stop hc).symm.trans hk.out
            clear hk HE HE0
            have HCS : Hid (#[Value.int .u8 (IntKind.u8.wrap (IntKind.i64.wrap ((k : Int) - (a : Int))))] = ([UInt8.ofNat (k - a)].map vu8).toArray) := by
              show _ = _
              rw [IntWalk.i64_in _ (by omega), show (k : Int) - (a : Int) = ((k - a : Nat) : Int) by omega, wrapByte (by omega)]
              rfl
            have HB : Hid ((out.length + [UInt8.ofNat (k - a)].length) * 1 ≤ 140737488355328) := by show _ ≤ _; simp only [List.length_cons, List.length_nil]; omega
            have HL : Hid (k - a = ((l.drop a).take (k - a)).length) := by show _ = _; simp; omega
            have HB2 : Hid (((out ++ [UInt8.ofNat (k - a)]).length + ((l.drop a).take (k - a)).length) * 1 ≤ 140737488355328) := by show _ ≤ _; rw [← HL.out]; simp; omega
            have HS2 : Hid ((out ++ [UInt8.ofNat (k - a)]) ++ (l.drop a).take (k - a) ++ packAt l k = pack l) := by show _ = _; rw [← HS.out]; simp
            have HP := Lib.hid (fun w' e => part_cells (hcs w' e) a (k - a))
            clear hcs HS
            rcases (by omega : ¬ k < l.length ∨ (k < l.length ∧ ¬ k - a < 127) ∨ (k < l.length ∧ k - a < 127 ∧ ¬ runAt l k < 3)) with c1 | ⟨c1, c2⟩ | ⟨c1, c2, c3⟩
            · have d1 : decide (k < l.length) = false := by simp; omega
              clear c1 hc
              go_wp2_with (first
                | (go_at_call 127; go_must (refine (sRunAt_c _ l c k _ ((h.ext eb).ext he) hwk).mono ?_); rintro _ w2 ⟨rfl, he2⟩; have he := he.trans he2))
              have hkc : k ≤ c := by omega
              have hca : ¬ c = a := by omega
              go_region_law (first
                | (refine step_appN rfl (.tmp 50) (.tmp 55) _ rfl E_u8 (by omega) w wr.drew _ vu8 (fun _ => rfl) _ rfl _ _ rfl out [UInt8.ofNat (k - a)] _ HCS.out rfl ((ho1.ext he).ext (Ext_drew (Ext.refl _))) (Ext_drew (eb.trans he)) rfl HB.out ?_; intro v4 w4 ho4 he4)
                | (refine step_appN rfl (.tmp 50) (.tmp 55) _ rfl E_u8 (by omega) w w2.drew _ vu8 (fun _ => rfl) _ rfl _ _ rfl out [UInt8.ofNat (k - a)] _ HCS.out rfl ((ho1.ext he).ext (Ext_drew (Ext.refl _))) (Ext_drew (eb.trans he)) rfl HB.out ?_; intro v4 w4 ho4 he4)
                | (refine step_appL rfl (.tmp 56) (.tmp 60) _ rfl E_u8 (by omega) w _ vu8 (fun _ => rfl) v4 rfl _ _ _ rfl (out ++ [UInt8.ofNat (k - a)]) ((l.drop a).take (k - a)) ho4 he4 HL.out (fun _ => ⟨_, rfl, HP.out _ he4⟩) HB2.out ?_; intro v5 w5 ho5 he5))
              go_wp2
              go_roundw
              case rel => exact ⟨k, (out ++ [UInt8.ofNat (k - a)]) ++ (l.drop a).take (k - a), by omega, rfl, ho5, HS2, he5⟩
              case measure => simp [intOf]; omega
            · have d1 : decide ((k : Int) < (l.length : Int)) = true := by simp; omega
              have d2 : decide ((k : Int) - (a : Int) < 127) = false := by simp; omega
              clear hc
              go_wp2_with (first
                | (go_at_call 127; go_must (refine (sRunAt_c _ l c k _ ((h.ext eb).ext he) hwk).mono ?_); rintro _ w2 ⟨rfl, he2⟩; have he := he.trans he2))
              have hkc : k ≤ c := by omega
              have hca : ¬ c = a := by omega
              go_region_law (first
                | (refine step_appN rfl (.tmp 50) (.tmp 55) _ rfl E_u8 (by omega) w wr.drew _ vu8 (fun _ => rfl) _ rfl _ _ rfl out [UInt8.ofNat (k - a)] _ HCS.out rfl ((ho1.ext he).ext (Ext_drew (Ext.refl _))) (Ext_drew (eb.trans he)) rfl HB.out ?_; intro v4 w4 ho4 he4)
                | (refine step_appN rfl (.tmp 50) (.tmp 55) _ rfl E_u8 (by omega) w w2.drew _ vu8 (fun _ => rfl) _ rfl _ _ rfl out [UInt8.ofNat (k - a)] _ HCS.out rfl ((ho1.ext he).ext (Ext_drew (Ext.refl _))) (Ext_drew (eb.trans he)) rfl HB.out ?_; intro v4 w4 ho4 he4)
                | (refine step_appL rfl (.tmp 56) (.tmp 60) _ rfl E_u8 (by omega) w _ vu8 (fun _ => rfl) v4 rfl _ _ _ rfl (out ++ [UInt8.ofNat (k - a)]) ((l.drop a).take (k - a)) ho4 he4 HL.out (fun _ => ⟨_, rfl, HP.out _ he4⟩) HB2.out ?_; intro v5 w5 ho5 he5))
              go_wp2
              go_roundw
              case rel => exact ⟨k, (out ++ [UInt8.ofNat (k - a)]) ++ (l.drop a).take (k - a), by omega, rfl, ho5, HS2, he5⟩
              case measure => simp [intOf]; omega
            · have d1 : decide ((k : Int) < (l.length : Int)) = true := by simp; omega
              have d2 : decide ((k : Int) - (a : Int) < 127) = true := by simp; omega
              have d3 : ¬ (runAt l k : Int) < 3 := by omega
              have hwk : (Lit.int .i64 (k : Int)).wf = true := WalkArith.wf_i64 (by omega)
              clear hc
              go_wp2_with (first
                | (go_at_call 127; go_must (refine (sRunAt_c _ l c k _ ((h.ext eb).ext he) hwk).mono ?_); rintro _ w2 ⟨rfl, he2⟩; have he := he.trans he2))
              have hkc : k ≤ c := by omega
              have hca : ¬ c = a := by omega
              go_region_law (first
                | (refine step_appN rfl (.tmp 50) (.tmp 55) _ rfl E_u8 (by omega) w wr.drew _ vu8 (fun _ => rfl) _ rfl _ _ rfl out [UInt8.ofNat (k - a)] _ HCS.out rfl ((ho1.ext he).ext (Ext_drew (Ext.refl _))) (Ext_drew (eb.trans he)) rfl HB.out ?_; intro v4 w4 ho4 he4)
                | (refine step_appN rfl (.tmp 50) (.tmp 55) _ rfl E_u8 (by omega) w w2.drew _ vu8 (fun _ => rfl) _ rfl _ _ rfl out [UInt8.ofNat (k - a)] _ HCS.out rfl ((ho1.ext he).ext (Ext_drew (Ext.refl _))) (Ext_drew (eb.trans he)) rfl HB.out ?_; intro v4 w4 ho4 he4)
                | (refine step_appL rfl (.tmp 56) (.tmp 60) _ rfl E_u8 (by omega) w _ vu8 (fun _ => rfl) v4 rfl _ _ _ rfl (out ++ [UInt8.ofNat (k - a)]) ((l.drop a).take (k - a)) ho4 he4 HL.out (fun _ => ⟨_, rfl, HP.out _ he4⟩) HB2.out ?_; intro v5 w5 ho5 he5))
              go_wp2
              go_roundw
              case rel => exact ⟨k, (out ++ [UInt8.ofNat (k - a)]) ++ (l.drop a).take (k - a), by omega, rfl, ho5, HS2, he5⟩
              case measure => simp [intOf]; omega
    · go_wp2
      go_ret
      have := hs.out; rw [packAt_end (by omega)] at this
      exact ⟨_, rfl, by simpa [← this] using ho, he⟩


end Go.Proofs.YtdbbdoldndnbhaaDoor

/- EncodeRecord of the program and of the reference; BigEndian of two bytes. -/
namespace Go.Proofs.YtdbbdoldndnbhaaDoor
open Go.RowKit Go.Sort

section
variable {P : Program} {ops : Array Oper} {rest : List Oper} {o : Oper} {a : Act} {Q : Exit → Act → World → Prop}
/-- append(s, str...) onto bytes of the call's own -/
theorem wpList_appS (hgd : o.guard = none) (s x : Operand) (t u : TypeId) (ho : o.op = .call { callee := .builtin .append, args := #[s, x], argTypes := #[t, u] })
    {e : TypeId} (hE : Elem P t e 1 1 (.int .u8 0)) (hu : P.underlying u = some .string) (w0 w : World) (v : Value) (hs : a.eval s = v) (st : ByteArray) (hx : a.eval x = .string st)
    (l : List UInt8) (hown : OwnL vu8 e w0 w v l) (he : Ext w0 w) (hb : l.length + st.size ≤ 140737488355328)
    (h : ∀ v' w', OwnL vu8 e w0 w' v' (l ++ st.data.toList) → Ext w0 w' → wpList P ops Q rest (a.put o.dst v') w') :
    wpList P ops Q (o :: rest) a w := by
  obtain ⟨i0, hi0, hz0, hz1, hz2⟩ := info_parts hE.hi
  refine Lib.wpList_append_own_string w hgd s x t u ho w0.heap.size e i0 hE.ht hu hi0 hz0 hz1 hz2 v l.length (l.map vu8) hs hown st hx (by simp only [maxLen]; omega) hb he.size ?_
  intro v' w' h1 h2 _
  refine h v' w' ?_ (he.grown h2 (fun k hk => (hown.lt k hk).1))
  have hsz : st.data.toList.length = st.size := by simp
  unfold OwnL
  rw [List.length_append, hsz, List.map_append]
  exact h1
/-- []byte(s) -/
theorem wpList_bytesOf (hgd : o.guard = none) (x : Operand) (src dst : TypeId) (ho : o.op = .convert src dst x) {e : TypeId} (hs : P.underlying src = some .string) (hd : P.underlying dst = some (.slice e)) (he : P.underlying e = some (.int .u8))
    (w : World) (st : ByteArray) (hx : a.eval x = .string st) (hsz : st.size ≤ 140737488351232)
    (h : ∀ c w', Bs w' (some ⟨w.heap.size, 0, none⟩) st.data.toList c → Ext w w' → wpList P ops Q rest (a.put o.dst (.slice (some ⟨w.heap.size, 0, none⟩) st.size c)) w') :
    wpList P ops Q (o :: rest) a w := by
  refine wpList_plain hgd fun K hK => ?_
  unfold Oper.wp execOp
  simp only [ho, hx, Sem.run_bind, Lib.run_convert_string_bytes w src dst e st hs hd he, Result.andThen_ok, Sem.run_pure]
  have hE : Ext w (Lib.bytesWorld w e st) := by
    refine ⟨rfl, rfl, rfl, by rw [Lib.bytesWorld_size]; omega, fun k hk => Lib.bytesWorld_at_old w e st k hk⟩
  have hsz' : st.data.toList.length = st.size := by simp
  refine hK _ _ (h _ _ ⟨⟨by rw [hsz']; exact grownCap_ge w _ _ _, by omega, fun hp => ⟨_, _, rfl, by rw [Lib.bytesWorld_size]; omega, fun w' e' i hi => ?_⟩⟩, by omega⟩ hE)
  have h1 := Lib.bytesWorld_cell w e st i (by omega)
  rw [e'.cell (by rw [Lib.bytesWorld_size]; show w.heap.size < _; omega)]
  rw [Nat.zero_add, h1]
  have hi' : i < st.data.size := by simpa using hi
  simp only [vu8, List.getD, Array.getElem?_toList, Array.getElem?_eq_getElem hi', Option.getD_some, Array.getElem_toList]
end

/-- the cells of a slice, as the laws on append ask for them -/
theorem Rd.src {α : Type} {f : α → Value} {w w' : World} {A : Option Addr} {l : List α} {c : Nat} (h : Rd f w A l c) (e : Ext w w') :
    0 < l.length → ∃ ad, A = some ad ∧ ∀ j u, (l.map f)[j]? = some u → w'.cell? (ad.add j) = some u := by
  intro hp
  obtain ⟨b, off, h1, _, h3⟩ := h.base hp
  refine ⟨_, h1, fun j u hu => ?_⟩
  have := part_cells (h3 w' e) 0 l.length j u (by simpa using hu)
  simpa using this
/-- a row of the call's own since a later world is one since an elder one -/
theorem OwnL.lower {α : Type} {f : α → Value} {e : TypeId} {w0 w1 w : World} {v : Value} {l : List α} (h : OwnL f e w1 w v l) (k : Ext w0 w1) : OwnL f e w0 w v l := World.ownsRow.lower h k.size

set_option maxHeartbeats 400000 in
theorem l2Power2_c (w : World) : Gives Tryd.prog 128 #[.int .i64 2] w (.int .i64 65536) := by
  go_enter Tryd.func128, Tryd.ntmps128
  go_wp2
  go_ret
  exact ⟨rfl, Ext.refl _⟩
set_option maxRecDepth 100000 in
set_option maxHeartbeats 1000000 in
theorem BigEndian2_c (n : Nat) (w : World) (hn : n ≤ 65535) :
    Calls Tryd.prog 111 #[.int .i64 n, .int .i64 2] w fun e w' => ∃ v, e = .returned v ∧ OwnL vu8 5 w w' v (be2 n) ∧ Ext w w' := by
  have hq : (decide ((0 : Int) ≤ (n : Int)) && decide ((n : Int) ≤ 65535)) = true := by simp; omega
  have HQ := Lib.hid hq; clear hq
  go_enter Tryd.func111, Tryd.ntmps111
  go_wp2_with (first
    | (go_at_call 128; refine (l2Power2_c _).mono ?_; rintro _ w2 ⟨rfl, he2⟩)
    | (go_at_call 54; refine (l1In_c _ _ _ _).mono ?_; rintro _ w1 ⟨rfl, he1⟩; try rw [HQ.out]))
  have he4 := (‹Ext (w.alloc (.cells #[] 5)) _›.trans he2).trans he1
  go_loopw [5, 6] (fun t i wr => ∃ k : Nat, k ≤ 2 ∧ i = .int .i64 (1 - k) ∧ OwnL vu8 5 w wr t ((be2 n).take k) ∧ Ext w wr) (fun _ i _ => (intOf i + 1).toNat)
  case atStart => exact ⟨0, by omega, rfl, (OwnL.empty (Ext.refl _)).ext he4, (Ext_alloc _ (Ext.refl _)).trans he4⟩
  case round =>
    clear he4 he1 he2
    obtain ⟨k, hk, rfl, ho, he⟩ := hrel
    have HB : ∀ x : UInt8, Hid ((((be2 n).take k).length + [x].length) * 1 ≤ 140737488355328) := by intro x; show _ ≤ _; have := List.length_take_le k (be2 n); simp at this ⊢; omega
    have H0 : Hid (#[Value.int .u8 ((n : Int) / 256)] = ([UInt8.ofNat (n / 256)].map vu8).toArray) := by
      show _ = _
      have : (UInt8.ofNat (n / 256)).toNat = n / 256 := by rw [UInt8.toNat_ofNat']; omega
      simp [vu8, this]
    have H1 : Hid (#[Value.int .u8 ((n : Int) % 256)] = ([UInt8.ofNat n].map vu8).toArray) := by
      show _ = _
      have : (UInt8.ofNat n).toNat = n % 256 := by rw [UInt8.toNat_ofNat']
      simp [vu8, this]
    rcases (by omega : k = 0 ∨ k = 1 ∨ k = 2) with rfl | rfl | rfl
    · go_wp2_with (first
        | (at_builtin; go_must (refine wpList_appN rfl (.tmp 26) (.tmp 32) _ rfl E_u8 (by omega) w _ vu8 (fun _ => rfl) _ rfl _ _ rfl ((be2 n).take 0) [UInt8.ofNat (n / 256)] _ H0.out ho he rfl (HB _).out ?_); intro v1 w1 ho1 he1))
      go_roundw
      case rel => exact ⟨1, by omega, rfl, ho1, he1⟩
      case measure => simp [intOf]
    · go_wp2_with (first
        | (at_builtin; go_must (refine wpList_appN rfl (.tmp 26) (.tmp 32) _ rfl E_u8 (by omega) w _ vu8 (fun _ => rfl) _ rfl _ _ rfl ((be2 n).take 1) [UInt8.ofNat n] _ H1.out ho he rfl (HB _).out ?_); intro v1 w1 ho1 he1))
      go_roundw
      case rel => exact ⟨2, by omega, rfl, ho1, he1⟩
      case measure => simp [intOf]
    · go_wp2
      go_ret
      exact ⟨_, rfl, ho, he⟩
end Go.Proofs.YtdbbdoldndnbhaaDoor

/- EncodeRecord of the program and of the reference. -/
namespace Go.Proofs.YtdbbdoldndnbhaaDoor
open Go.RowKit Go.Sort

/-- a row of a literal is the call's own -/
theorem OwnL.lit {α : Type} {f : α → Value} {e : TypeId} {w0 w : World} (he : Ext w0 w) (ys : List α) (cs : Array Value) (hcs : cs = (ys.map f).toArray) (m : Nat) (hm : m = ys.length) (hl : m ≤ 1000) :
    OwnL f e w0 (w.alloc (.cells cs e)) (.slice (some ⟨w.heap.size, 0, none⟩) m m) ys := by
  subst hcs; subst hm
  exact ⟨by simp, .inr ⟨w.heap.size, ys.length, _, rfl, he.size, heap_alloc_new w _, by omega, by simp only [maxLen]; omega, by simp, by simp [List.take_of_length_le]⟩⟩

set_option maxRecDepth 100000 in
set_option maxHeartbeats 2000000 in
theorem iEncodeRecord_c (k : Int) (nm : ByteArray) (ver : Int) (A : Option Addr) (l : List UInt8) (c : Nat) (w : World) (h : Bs w A l c) (hn : nm.size ≤ 9223372036854775807) :
    Calls Tryd.prog 33 #[vrec k nm ver (.slice A l.length c)] w fun e w' => ∃ v, e = .returned v ∧ OwnL vu8 5 w w' v (encRec k nm ver l) ∧ Ext w w' := by
  have C1 := Lib.hid (fun w => iIsValidRecord_c k nm ver A l c w h.len hn)
  have B := fun w' (e : Ext (w.alloc (.cells #[.int .i64 k, .string nm, .int .i64 ver, .slice A l.length c] 49)) w') => boxed e
  have eb := Ext_alloc (.cells #[.int .i64 k, .string nm, .int .i64 ver, .slice A l.length c] 49) (Ext.refl w)
  unfold encRec
  cases hv : validRec k nm ver l.length
  · rw [hv] at C1
    unfold vrec at C1 ⊢
    go_enter Tryd.func33, Tryd.ntmps33
    go_wp2_with (first
      | (go_at_call 35; refine (C1.out _).mono ?_; rintro _ w1 ⟨rfl, he1⟩))
    go_ret
    exact ⟨_, rfl, OwnL.empty (eb.trans he1), Ext_alloc _ (eb.trans he1)⟩
  · rw [hv] at C1
    have C2 := Lib.hid (fun w' (e : Ext w w') => iPackBytes_c A l c w' (h.ext e) (by have := validRec_facts hv; omega))
    have HPL : Hid ((pack l).length ≤ 140737488351232) := by
      have hf := validRec_facts hv
      have hp := pack_le l
      show _ ≤ _; omega
    have hpl : (pack l).length ≤ 800 := by
      have hf := validRec_facts hv
      have hp := pack_le l
      omega
    have hf := validRec_facts hv
    have H0 : Hid (#[Value.int .u8 (k % 256), Value.int .u8 ((nm.size : Int) % 256)] = ([UInt8.ofNat k.toNat, UInt8.ofNat nm.size].map vu8).toArray) := by
      show _ = _
      simp [vu8, UInt8.toNat_ofNat']; omega
    have H1 : Hid (#[Value.int .u8 (ver % 256), Value.int .u8 (((pack l).length : Int) / 256), Value.int .u8 (((pack l).length : Int) % 256)] = ([UInt8.ofNat ver.toNat, UInt8.ofNat ((pack l).length / 256), UInt8.ofNat (pack l).length].map vu8).toArray) := by
      show _ = _
      simp [vu8, UInt8.toNat_ofNat']; omega
    have HN : Hid (([UInt8.ofNat k.toNat, UInt8.ofNat nm.size].length + nm.size) ≤ 140737488355328) := by
      show _ ≤ _
      simp; omega
    have HE : Hid (([UInt8.ofNat k.toNat, UInt8.ofNat nm.size] ++ nm.data.toList) ++ [UInt8.ofNat ver.toNat, UInt8.ofNat ((pack l).length / 256), UInt8.ofNat (pack l).length] ++ pack l = encBody k nm ver l) := by
      show _ = _; unfold encBody be2; simp
    have HBL : Hid ((encBody k nm ver l).length = nm.size + 5 + (pack l).length) := encBody_length k nm ver l
    have HS : Hid (#[Value.int .u8 ((sumB (encBody k nm ver l) : Int) % 256)] = ([UInt8.ofNat (sumB (encBody k nm ver l))].map vu8).toArray) := by
      show _ = _
      simp [vu8, UInt8.toNat_ofNat']
    generalize hP : pack l = P at *
    have HP := Lib.hid hP; clear hP
    have HN1 : Hid (((([UInt8.ofNat k.toNat, UInt8.ofNat nm.size] ++ nm.data.toList).length + [UInt8.ofNat ver.toNat, UInt8.ofNat (P.length / 256), UInt8.ofNat P.length].length) * 1) ≤ 140737488355328) := by
      show _ ≤ _
      simp; omega
    have HN2 : Hid ((((([UInt8.ofNat k.toNat, UInt8.ofNat nm.size] ++ nm.data.toList) ++ [UInt8.ofNat ver.toNat, UInt8.ofNat (P.length / 256), UInt8.ofNat P.length]).length + P.length) * 1) ≤ 140737488355328) := by
      show _ ≤ _
      simp; omega
    have HN3 : Hid (((encBody k nm ver l).length + [UInt8.ofNat (sumB (encBody k nm ver l))].length) * 1 ≤ 140737488355328) := by
      show _ ≤ _
      rw [HBL.out]; simp; omega
    have HN4 : Hid ((encBody k nm ver l).length ≤ 1099511627776) := by
      show _ ≤ _
      rw [HBL.out]; omega
    generalize encBody k nm ver l = EB at *
    clear HBL hf
    unfold vrec at C1 ⊢
    go_enter Tryd.func33, Tryd.ntmps33
    go_wp2_with (first
      | (go_at_call 35; refine (C1.out _).mono ?_; rintro _ w1 ⟨rfl, he1⟩)
      | (go_at_call 67; refine (C2.out _ (eb.trans (by assumption))).mono ?_; rintro _ w2 ⟨v2, rfl, ho2, he2⟩; have he12 := he1.trans he2; obtain ⟨A2, c2, rfl, hr2⟩ := OwnL.rd ho2 HPL.out)
      | (at_builtin; refine wpList_appS rfl (.tmp 20) (.tmp 22) _ _ rfl E_u8 rfl w2 _ _ rfl nm rfl [UInt8.ofNat k.toNat, UInt8.ofNat nm.size] (OwnL.lit (Ext.refl w2) _ _ H0.out 2 rfl (by omega)) (Ext_alloc _ (Ext.refl w2)) HN.out ?_; intro v3 w3 ho3 he3; have he13 := he12.trans he3)
      | (at_builtin; refine wpList_appN rfl (.tmp 24) (.tmp 35) _ rfl E_u8 (by omega) w2 _ vu8 (fun _ => rfl) _ rfl _ _ rfl ([UInt8.ofNat k.toNat, UInt8.ofNat nm.size] ++ nm.data.toList) [UInt8.ofNat ver.toNat, UInt8.ofNat (P.length / 256), UInt8.ofNat P.length] _ H1.out ho3 he3 rfl HN1.out ?_; intro v4 w4 ho4 he4; have he14 := he12.trans he4)
      | (at_builtin; refine wpList_appL rfl (.tmp 37) (.tmp 38) _ rfl E_u8 (by omega) w2 _ vu8 (fun _ => rfl) _ rfl _ _ _ rfl (([UInt8.ofNat k.toNat, UInt8.ofNat nm.size] ++ nm.data.toList) ++ [UInt8.ofNat ver.toNat, UInt8.ofNat (P.length / 256), UInt8.ofNat P.length]) P ho4 he4 rfl (hr2.src he4) HN2.out ?_; intro v5 w5 ho5 he5 _ _; rw [HE.out] at ho5; obtain ⟨A5, c5, hv5, hr5⟩ := ho5.rd (by have := HN4.out; omega); subst hv5; have he15 := he12.trans he5)
      | (go_at_call 68; refine (iSumOfBytes_c _ _ _ _ hr5 HN4.out).mono ?_; rintro _ w6 ⟨rfl, he6⟩; have ho6 := ho5.ext he6; have he56 := he5.trans he6)
      | (at_builtin; refine wpList_appN rfl (.tmp 40) (.tmp 44) _ rfl E_u8 (by omega) w2 _ vu8 (fun _ => rfl) _ rfl _ _ rfl EB [UInt8.ofNat (sumB EB)] _ HS.out ho6 he56 rfl HN3.out ?_; intro v7 w7 ho7 he7)
      | (at_builtin; trace_state; fail))
    go_ret
    exact ⟨_, rfl, ho7.lower (eb.trans he12), (eb.trans he12).trans he7⟩

set_option maxRecDepth 100000 in
set_option maxHeartbeats 2000000 in
theorem sEncodeRecord_c (k : Int) (nm : ByteArray) (ver : Int) (A : Option Addr) (l : List UInt8) (c : Nat) (w : World) (h : Bs w A l c) (hn : nm.size ≤ 9223372036854775807) :
    Calls Tryd.prog 93 #[vrec k nm ver (.slice A l.length c)] w fun e w' => ∃ v, e = .returned v ∧ OwnL vu8 5 w w' v (encRec k nm ver l) ∧ Ext w w' := by
  have C1 := Lib.hid (fun w => sIsValidRecord_c k nm ver A l c w h.len hn)
  have B := fun w' (e : Ext (w.alloc (.cells #[.int .i64 k, .string nm, .int .i64 ver, .slice A l.length c] 49)) w') => boxed e
  have eb := Ext_alloc (.cells #[.int .i64 k, .string nm, .int .i64 ver, .slice A l.length c] 49) (Ext.refl w)
  unfold encRec
  cases hv : validRec k nm ver l.length
  · rw [hv] at C1
    unfold vrec at C1 ⊢
    go_enter Tryd.func93, Tryd.ntmps93
    go_wp2_with (first
      | (go_at_call 34; refine (C1.out _).mono ?_; rintro _ w1 ⟨rfl, he1⟩))
    go_ret
    exact ⟨_, rfl, OwnL.empty (eb.trans he1), Ext_alloc _ (eb.trans he1)⟩
  · rw [hv] at C1
    have C2 := Lib.hid (fun w' (e : Ext w w') => sPackBytes_c A l c w' (h.ext e) (by have := validRec_facts hv; omega))
    have hf := validRec_facts hv
    have hpl : (pack l).length ≤ 800 := by
      have hp := pack_le l
      omega
    have HPL : Hid ((pack l).length ≤ 140737488351232) := by
      show _ ≤ _; omega
    have H0 : Hid (#[Value.int .u8 (k % 256), Value.int .u8 ((nm.size : Int) % 256)] = ([UInt8.ofNat k.toNat, UInt8.ofNat nm.size].map vu8).toArray) := by
      show _ = _
      simp [vu8, UInt8.toNat_ofNat']; omega
    have H1 : Hid (#[Value.int .u8 (ver % 256)] = ([UInt8.ofNat ver.toNat].map vu8).toArray) := by
      show _ = _
      simp [vu8, UInt8.toNat_ofNat']; omega
    have HNS : Hid (nm.size ≤ 140737488351232) := by show _ ≤ _; omega
    have HNL : Hid (nm.size = nm.data.toList.length) := by show _ = _; simp
    have HN : Hid (([UInt8.ofNat k.toNat, UInt8.ofNat nm.size].length + nm.data.toList.length) * 1 ≤ 140737488355328) := by
      show _ ≤ _
      simp; omega
    have HN1 : Hid (((([UInt8.ofNat k.toNat, UInt8.ofNat nm.size] ++ nm.data.toList).length + [UInt8.ofNat ver.toNat].length) * 1) ≤ 140737488355328) := by
      show _ ≤ _
      simp; omega
    have HE : Hid (([UInt8.ofNat k.toNat, UInt8.ofNat nm.size] ++ nm.data.toList) ++ [UInt8.ofNat ver.toNat] ++ be2 (pack l).length ++ pack l = encBody k nm ver l) := rfl
    have HBL : Hid ((encBody k nm ver l).length = nm.size + 5 + (pack l).length) := encBody_length k nm ver l
    have HS : Hid (#[Value.int .u8 ((sumB (encBody k nm ver l) : Int) % 256)] = ([UInt8.ofNat (sumB (encBody k nm ver l))].map vu8).toArray) := by
      show _ = _
      simp [vu8, UInt8.toNat_ofNat']
    generalize hP : pack l = P at *
    have HP := Lib.hid hP; clear hP
    have HBE : Hid (P.length ≤ 65535) := by show _ ≤ _; omega
    have hbe : (be2 P.length).length = 2 := rfl
    have HN2 : Hid ((((([UInt8.ofNat k.toNat, UInt8.ofNat nm.size] ++ nm.data.toList) ++ [UInt8.ofNat ver.toNat]).length + (be2 P.length).length) * 1) ≤ 140737488355328) := by
      show _ ≤ _
      simp; omega
    have HN2b : Hid ((((([UInt8.ofNat k.toNat, UInt8.ofNat nm.size] ++ nm.data.toList) ++ [UInt8.ofNat ver.toNat] ++ be2 P.length).length + P.length) * 1) ≤ 140737488355328) := by
      show _ ≤ _
      simp; omega
    have HB2 := Lib.hid hbe; clear hbe
    generalize hBE : be2 P.length = BE at *
    have HBQ := Lib.hid hBE; clear hBE
    have CB := Lib.hid (fun w => BigEndian2_c P.length w HBE.out)
    rw [HBQ.out] at CB
    have HN3 : Hid (((encBody k nm ver l).length + [UInt8.ofNat (sumB (encBody k nm ver l))].length) * 1 ≤ 140737488355328) := by
      show _ ≤ _
      rw [HBL.out]; simp; omega
    have HN4 : Hid ((encBody k nm ver l).length ≤ 140737488351232) := by
      show _ ≤ _
      rw [HBL.out]; omega
    generalize encBody k nm ver l = EB at *
    clear HBL hf
    unfold vrec at C1 ⊢
    go_enter Tryd.func93, Tryd.ntmps93
    go_wp2_with (first
      | (go_at_call 34; refine (C1.out _).mono ?_; rintro _ w1 ⟨rfl, he1⟩)
      | (go_at_call 110; refine (C2.out _ (eb.trans (by assumption))).mono ?_; rintro _ w2 ⟨v2, rfl, ho2, he2⟩; have he12 := he1.trans he2; obtain ⟨A2, c2, rfl, hr2⟩ := OwnL.rd ho2 HPL.out)
      | (refine wpList_bytesOf rfl (.tmp 21) 9 44 rfl rfl rfl rfl _ nm rfl HNS.out ?_; intro c3 w3 hr3 he3; have hl3 := (OwnL.lit (Ext.refl w2) _ _ H0.out 2 rfl (by omega)).ext he3; have he23 := (Ext_alloc _ (Ext.refl w2)).trans he3; have he13 := he12.trans he23)
      | (at_builtin; refine wpList_appL rfl (.tmp 19) (.tmp 22) _ rfl E_u8 (by omega) w2 _ vu8 (fun _ => rfl) _ rfl _ _ _ rfl [UInt8.ofNat k.toNat, UInt8.ofNat nm.size] nm.data.toList hl3 he23 HNL.out (hr3.src (Ext.refl _)) HN.out ?_; intro v4 w4 ho4 he4 _ _; have he14 := he12.trans he4)
      | (at_builtin; refine wpList_appN rfl (.tmp 24) (.tmp 28) _ rfl E_u8 (by omega) w2 _ vu8 (fun _ => rfl) _ rfl _ _ rfl ([UInt8.ofNat k.toNat, UInt8.ofNat nm.size] ++ nm.data.toList) [UInt8.ofNat ver.toNat] _ H1.out ho4 he4 rfl HN1.out ?_; intro v5 w5 ho5 he5; have he15 := he12.trans he5)
      | (go_at_call 111; refine (CB.out _).mono ?_; rintro _ w6 ⟨v6, rfl, ho6, he6⟩; obtain ⟨A6, c6, hv6, hr6⟩ := OwnL.rd ho6 (by rw [HB2.out]; omega); subst hv6; have hp5 := ho5.ext he6; have he26 := he5.trans he6; have he16 := he12.trans he26)
      | (at_builtin; refine wpList_appL rfl (.tmp 29) (.tmp 32) _ rfl E_u8 (by omega) w2 _ vu8 (fun _ => rfl) _ rfl _ _ _ rfl (([UInt8.ofNat k.toNat, UInt8.ofNat nm.size] ++ nm.data.toList) ++ [UInt8.ofNat ver.toNat]) BE hp5 he26 rfl (hr6.src (Ext.refl _)) HN2.out ?_; intro v7 w7 ho7 he7 _ _; have he17 := he12.trans he7)
      | (at_builtin; refine wpList_appL rfl (.tmp 33) (.tmp 34) _ rfl E_u8 (by omega) w2 _ vu8 (fun _ => rfl) _ rfl _ _ _ rfl (([UInt8.ofNat k.toNat, UInt8.ofNat nm.size] ++ nm.data.toList) ++ [UInt8.ofNat ver.toNat] ++ BE) P ho7 he7 rfl (hr2.src he7) HN2b.out ?_; intro v8 w8 ho8 he8 _ _; rw [HE.out] at ho8; obtain ⟨A8, c8, hv8, hr8⟩ := ho8.rd HN4.out; subst hv8; have he18 := he12.trans he8)
      | (go_at_call 112; refine (sSumOfBytes_c _ _ _ _ hr8).mono ?_; rintro _ w9 ⟨rfl, he9⟩; have ho9 := ho8.ext he9; have he29 := he8.trans he9)
      | (at_builtin; refine wpList_appN rfl (.tmp 36) (.tmp 40) _ rfl E_u8 (by omega) w2 _ vu8 (fun _ => rfl) _ rfl _ _ rfl EB [UInt8.ofNat (sumB EB)] _ HS.out ho9 he29 rfl HN3.out ?_; intro v10 w10 ho10 he10))
    go_ret
    exact ⟨_, rfl, ho10.lower (eb.trans he12), (eb.trans he12).trans he10⟩
set_option maxHeartbeats 400000 in
theorem iRecordSize_c (k : Int) (nm : ByteArray) (ver : Int) (A : Option Addr) (l : List UInt8) (c : Nat) (w : World) (h : Bs w A l c) (hn : nm.size ≤ 9223372036854775807) :
    Gives Tryd.prog 36 #[vrec k nm ver (.slice A l.length c)] w (.int .i64 (encRec k nm ver l).length) := by
  have C := Lib.hid (fun w h => iEncodeRecord_c k nm ver A l c w h hn)
  have hle := encRec_le k nm ver l
  have eb := Ext_alloc (.cells #[.int .i64 k, .string nm, .int .i64 ver, .slice A l.length c] 49) (Ext.refl w)
  generalize encRec k nm ver l = R at *
  unfold vrec at *
  go_enter Tryd.func36, Tryd.ntmps36
  go_wp2_with fail
  refine (C.out _ (h.ext eb)).mono ?_; rintro _ w1 ⟨v1, rfl, ho1, he1⟩; obtain ⟨A1, c1, rfl, _⟩ := OwnL.rd ho1 (by omega)
  go_wp2
  go_ret
  exact ⟨rfl, eb.trans he1⟩

end Go.Proofs.YtdbbdoldndnbhaaDoor

/- UnpackBytes and IsPacked of the program and of the reference. -/
namespace Go.Proofs.YtdbbdoldndnbhaaDoor
open Go.RowKit Go.Sort

set_option maxRecDepth 100000 in
set_option maxHeartbeats 1000000 in
theorem iUnpackBytes_c (A : Option Addr) (l : List UInt8) (c : Nat) (w : World) (h : Bs w A l c) :
    Calls Tryd.prog 71 #[.slice A l.length c] w fun e w' => ∃ v, e = .returned (.tuple #[v, .bool (unpack l).isSome]) ∧ OwnL vu8 5 w w' v ((unpack l).getD []) ∧ Ext w w' := by
  have hl := h.len
  go_enter Tryd.func71, Tryd.ntmps71
  go_wp2
  go_loopw [4, 5] (fun t i wr => ∃ (a : Nat) (out : List UInt8), a ≤ l.length ∧ i = .int .i64 a ∧ OwnL vu8 5 w wr t out ∧ out.length ≤ 1000 ∧ Hid (unpackAt l a out = unpack l) ∧ Ext w wr) (fun _ i _ => l.length - (intOf i).toNat)
  case atStart => exact ⟨0, [], by omega, rfl, OwnL.empty (Ext.refl _), by simp, by simp [Hid, unpackAt, unpack], Ext_alloc _ (Ext.refl _)⟩
  case round =>
    obtain ⟨a, out, ha, rfl, ho, hout, hs, he⟩ := hrel
    by_cases hlt : a < l.length
    · obtain ⟨b, off, rfl, hb, hcs⟩ := h.base (by omega)
      have hc := fun w' e => hcs w' e a hlt
      have hstep := Lib.hid (unpackAt_step l a out hlt)
      have hx : (l[a].toNat : Int) ≤ 255 := by have := l[a].toNat_lt; omega
      have e0 : (l[a] = 0) ↔ l[a].toNat = 0 := by rw [← UInt8.toNat_inj]; simp
      have e128 : (l[a] = 128) ↔ l[a].toNat = 128 := by rw [← UInt8.toNat_inj]; simp
      have elt : (l[a] < 128) ↔ l[a].toNat < 128 := by rw [UInt8.lt_iff_toNat_lt]; simp
      by_cases c1 : l[a] = 0 ∨ l[a] = 128 ∨ l.length = a + 1
      · have HN : Hid (unpack l = none) := by have := hs.out; rw [hstep.out, if_pos c1] at this; exact this.symm
        rw [e0, e128] at c1
        clear hs hstep e0 e128 elt ho
        cases d1 : ((l[a].toNat : Int) == 0) <;> cases d2 : ((l[a].toNat : Int) == 128) <;> cases d3 : ((a:Int) + 1 == (l.length:Int))
        all_goals first
          | (exfalso; simp at d1 d2 d3; omega)
          | (clear c1; go_wp2; go_ret2; rw [HN.out]; exact ⟨_, rfl, OwnL.empty he, Ext_alloc _ he⟩)
      · have c1' : ¬ (l[a].toNat = 0 ∨ l[a].toNat = 128 ∨ l.length = a + 1) := by rw [← e0, ← e128]; exact c1
        have d1 : ((l[a].toNat : Int) == 0) = false := beq_eq_false_iff_ne.2 (by omega)
        have d2 : ((l[a].toNat : Int) == 128) = false := beq_eq_false_iff_ne.2 (by omega)
        have d3 : ((a:Int) + 1 == (l.length:Int)) = false := beq_eq_false_iff_ne.2 (by omega)
        have hs := Lib.hid (hs.out.symm.trans (hstep.out.trans (if_neg c1)))
        by_cases c2 : l[a] < 128
        · have hs := Lib.hid (hs.out.trans (if_pos c2))
          rw [elt] at c2
          clear hstep e0 e128 elt c1
          by_cases c3 : l.length < a + 1 + l[a].toNat
          · have HN : Hid (unpack l = none) := hs.out.trans (if_pos c3)
            clear hs ho
            go_wp2
            go_ret2; rw [HN.out]; exact ⟨_, rfl, OwnL.empty he, Ext_alloc _ he⟩
          · have hs := Lib.hid (hs.out.trans (if_neg c3))
            have hcap := h.cap
            have hcells := part_cells (hcs wr he) (a + 1) l[a].toNat
            have hln : a + 1 + l[a].toNat - (a + 1) = ((l.drop (a+1)).take l[a].toNat).length := by simp; omega
            have hlen : ((l.drop (a+1)).take l[a].toNat).length = l[a].toNat := by simp; omega
            have HC := Lib.hid hcells; have HL := Lib.hid hln; have HN := Lib.hid hlen
            have HB : (out.length + ((l.drop (a+1)).take l[a].toNat).length) * 1 ≤ 140737488355328 := by omega
            have HB := Lib.hid HB; clear hcells hln hlen hcs
            go_wp2_with (first
              | (at_builtin; go_must (refine wpList_appL rfl (.tmp 57) (.tmp 63) _ rfl E_u8 (by omega) w wr vu8 (fun _ => rfl) u4 rfl _ _ _ rfl out ((l.drop (a+1)).take l[a].toNat) ho he HL.out (fun _ => ⟨_, rfl, HC.out⟩) HB.out ?_); intro v1 w1 ho1 he1 _ _; obtain ⟨A1, c1, hv1, _⟩ := ho1.rd (by rw [List.length_append, HN.out]; omega); subst hv1))
            · have hbig : ((1000 : Int) < (out.length : Int) + (min l[a].toNat (l.length - (a + 1)) : Nat)) := by assumption
              have HN2 : Hid (unpack l = none) := hs.out.trans (if_pos (by omega))
              go_ret2; rw [HN2.out]; exact ⟨_, rfl, OwnL.empty he1, Ext_alloc _ he1⟩
            · have hsm : (out.length : Int) + (min l[a].toNat (l.length - (a + 1)) : Nat) ≤ 1000 := by assumption
              have hs2 := hs.out.trans (if_neg (by omega))
              go_roundw
              case rel => exact ⟨a + 1 + l[a].toNat, out ++ (l.drop (a+1)).take l[a].toNat, by omega, by go_num, by simpa using ho1, by simp; omega, hs2.symm, he1⟩
              case measure => simp [intOf]; omega
        · have hs := Lib.hid (hs.out.trans (if_neg c2))
          rw [elt] at c2
          clear hstep e0 e128 elt c1
          have ha1 : a + 1 < l.length := by omega
          have hhd : (l.drop (a+1)).headD 0 = l[a+1] := by rw [List.drop_eq_getElem_cons ha1]; rfl
          have HD := Lib.hid hhd; clear hhd
          have hc' := fun w' e => hcs w' e (a+1) ha1
          have d5 : decide ((128 : Int) < (l[a].toNat : Int)) = true := by simp; omega
          go_wp2
          go_loopw [4, 21] (fun t i wq => ∃ j : Nat, j ≤ l[a].toNat - 128 ∧ i = .int .i64 j ∧ OwnL vu8 5 w wq t (out ++ List.replicate j l[a+1]) ∧ Ext w wq) (fun _ i _ => l[a].toNat - 128 - (intOf i).toNat)
          case atStart => exact ⟨0, by omega, rfl, by simpa using ho, he⟩
          case round =>
            clear ho he
            obtain ⟨j, hj, rfl, ho, he⟩ := hrel
            by_cases hjn : j < l[a].toNat - 128
            · have HR : Hid (out ++ List.replicate j l[a+1] ++ [l[a+1]] = out ++ List.replicate (j+1) l[a+1]) := by rw [List.append_assoc, ← List.replicate_succ']; rfl
              have HB : ((out ++ List.replicate j l[a+1]).length + [l[a+1]].length) * 1 ≤ 140737488355328 := by simp; omega
              have HB := Lib.hid HB
              go_wp2_with (first
                | (at_builtin; go_must (refine wpList_appN rfl (.tmp 23) (.tmp 28) _ rfl E_u8 (by omega) w _ vu8 (fun _ => rfl) _ rfl _ _ rfl (out ++ List.replicate j l[a+1]) [l[a+1]] _ rfl ho he rfl HB.out ?_); intro v1 w1 ho1 he1; rw [HR.out] at ho1))
              go_roundw
              case rel => exact ⟨j+1, by omega, by go_num, ho1, he1⟩
              case measure => simp [intOf]; omega
            · obtain rfl : j = l[a].toNat - 128 := by omega
              obtain ⟨A1, c1, rfl, _⟩ := ho.rd (by simp; omega)
              go_wp2
              · have hbig : ((1000 : Int) < (out.length : Int) + ((l[a].toNat - 128 : Nat) : Int)) := by assumption
                have HN2 : Hid (unpack l = none) := hs.out.trans (if_pos (by omega))
                go_ret2; rw [HN2.out]; exact ⟨_, rfl, OwnL.empty he, Ext_alloc _ he⟩
              · have hsm : (out.length : Int) + ((l[a].toNat - 128 : Nat) : Int) ≤ 1000 := by assumption
                have hs2 := hs.out.trans (if_neg (by omega))
                rw [HD.out] at hs2
                go_roundw
                case rel => exact ⟨a + 2, out ++ List.replicate (l[a].toNat - 128) l[a+1], by omega, by go_num, by simpa using ho, by simp; omega, hs2.symm, he⟩
                case measure => simp [intOf]; omega
    · go_wp2
      go_ret2
      have hn := hs.out.symm.trans (unpackAt_end l a out (by omega))
      rw [hn]
      exact ⟨_, rfl, ho, he⟩

set_option maxRecDepth 100000 in
set_option maxHeartbeats 1000000 in
theorem sUnpackBytes_c (A : Option Addr) (l : List UInt8) (c : Nat) (w : World) (h : Bs w A l c) :
    Calls Tryd.prog 92 #[.slice A l.length c] w fun e w' => ∃ v, e = .returned (.tuple #[v, .bool (unpack l).isSome]) ∧ OwnL vu8 5 w w' v ((unpack l).getD []) ∧ Ext w w' := by
  have hl := h.len
  go_enter Tryd.func92, Tryd.ntmps92
  go_wp2
  go_loopw [4, 5] (fun t i wr => ∃ (a : Nat) (out : List UInt8), a ≤ l.length ∧ i = .int .i64 a ∧ OwnL vu8 5 w wr t out ∧ out.length ≤ 1000 ∧ Hid (unpackAt l a out = unpack l) ∧ Ext w wr) (fun _ i _ => l.length - (intOf i).toNat)
  case atStart => exact ⟨0, [], by omega, rfl, OwnL.empty (Ext.refl _), by simp, by simp [Hid, unpackAt, unpack], Ext_alloc _ (Ext.refl _)⟩
  case round =>
    obtain ⟨a, out, ha, rfl, ho, hout, hs, he⟩ := hrel
    by_cases hlt : a < l.length
    · obtain ⟨b, off, rfl, hb, hcs⟩ := h.base (by omega)
      have hc := fun w' e => hcs w' e a hlt
      have hstep := Lib.hid (unpackAt_step l a out hlt)
      have hx : (l[a].toNat : Int) ≤ 255 := by have := l[a].toNat_lt; omega
      have e0 : (l[a] = 0) ↔ l[a].toNat = 0 := by rw [← UInt8.toNat_inj]; simp
      have e128 : (l[a] = 128) ↔ l[a].toNat = 128 := by rw [← UInt8.toNat_inj]; simp
      have elt : (l[a] < 128) ↔ l[a].toNat < 128 := by rw [UInt8.lt_iff_toNat_lt]; simp
      by_cases c1 : l[a] = 0 ∨ l[a] = 128 ∨ l.length = a + 1
      · have HN : Hid (unpack l = none) := by have := hs.out; rw [hstep.out, if_pos c1] at this; exact this.symm
        rw [e0, e128] at c1
        clear hs hstep e0 e128 elt ho
        cases d1 : ((l[a].toNat : Int) == 0) <;> cases d2 : ((l[a].toNat : Int) == 128) <;> cases d3 : (decide ((l.length:Int) ≤ (a:Int) + 1))
        all_goals first
          | (exfalso; simp at d1 d2 d3; omega)
          | (clear c1; go_wp2; go_ret2; rw [HN.out]; exact ⟨_, rfl, OwnL.empty he, Ext_alloc _ he⟩)
      · have c1' : ¬ (l[a].toNat = 0 ∨ l[a].toNat = 128 ∨ l.length = a + 1) := by rw [← e0, ← e128]; exact c1
        have d1 : ((l[a].toNat : Int) == 0) = false := beq_eq_false_iff_ne.2 (by omega)
        have d2 : ((l[a].toNat : Int) == 128) = false := beq_eq_false_iff_ne.2 (by omega)
        have d3 : (decide ((l.length:Int) ≤ (a:Int) + 1)) = false := decide_eq_false (by omega)
        have hs := Lib.hid (hs.out.symm.trans (hstep.out.trans (if_neg c1)))
        by_cases c2 : l[a] < 128
        · have hs := Lib.hid (hs.out.trans (if_pos c2))
          rw [elt] at c2
          clear hstep e0 e128 elt c1
          by_cases c3 : l.length < a + 1 + l[a].toNat
          · have HN : Hid (unpack l = none) := hs.out.trans (if_pos c3)
            clear hs ho
            go_wp2
            go_ret2; rw [HN.out]; exact ⟨_, rfl, OwnL.empty he, Ext_alloc _ he⟩
          · have hs := Lib.hid (hs.out.trans (if_neg c3))
            have hcap := h.cap
            have hcells := part_cells (hcs wr he) (a + 1) l[a].toNat
            have hln : a + 1 + l[a].toNat - (a + 1) = ((l.drop (a+1)).take l[a].toNat).length := by simp; omega
            have hlen : ((l.drop (a+1)).take l[a].toNat).length = l[a].toNat := by simp; omega
            have HC := Lib.hid hcells; have HL := Lib.hid hln; have HN := Lib.hid hlen
            have HB : (out.length + ((l.drop (a+1)).take l[a].toNat).length) * 1 ≤ 140737488355328 := by omega
            have HB := Lib.hid HB; clear hcells hln hlen hcs
            go_wp2_with (first
              | (at_builtin; go_must (refine wpList_appL rfl (.tmp 26) (.tmp 34) _ rfl E_u8 (by omega) w wr vu8 (fun _ => rfl) u4 rfl _ _ _ rfl out ((l.drop (a+1)).take l[a].toNat) ho he HL.out (fun _ => ⟨_, rfl, HC.out⟩) HB.out ?_); intro v1 w1 ho1 he1 _ _; obtain ⟨A1, c1, hv1, _⟩ := ho1.rd (by rw [List.length_append, HN.out]; omega); subst hv1))
            · have hbig : ((1000 : Int) < (out.length : Int) + (min l[a].toNat (l.length - (a + 1)) : Nat)) := by assumption
              have HN2 : Hid (unpack l = none) := hs.out.trans (if_pos (by omega))
              go_ret2; rw [HN2.out]; exact ⟨_, rfl, OwnL.empty he1, Ext_alloc _ he1⟩
            · have hsm : (out.length : Int) + (min l[a].toNat (l.length - (a + 1)) : Nat) ≤ 1000 := by assumption
              have hs2 := hs.out.trans (if_neg (by omega))
              go_roundw
              case rel => exact ⟨a + 1 + l[a].toNat, out ++ (l.drop (a+1)).take l[a].toNat, by omega, by go_num, by simpa using ho1, by simp; omega, hs2.symm, he1⟩
              case measure => simp [intOf]; omega
        · have hs := Lib.hid (hs.out.trans (if_neg c2))
          rw [elt] at c2
          clear hstep e0 e128 elt c1
          have ha1 : a + 1 < l.length := by omega
          have hhd : (l.drop (a+1)).headD 0 = l[a+1] := by rw [List.drop_eq_getElem_cons ha1]; rfl
          have HD := Lib.hid hhd; clear hhd
          have hc' := fun w' e => hcs w' e (a+1) ha1
          have d5 : decide ((128 : Int) < (l[a].toNat : Int)) = true := by simp; omega
          go_wp2
          go_loopw [4, 7] (fun t i wq => ∃ j : Nat, j ≤ l[a].toNat - 128 ∧ i = .int .i64 j ∧ OwnL vu8 5 w wq t (out ++ List.replicate j l[a+1]) ∧ Ext w wq) (fun _ i _ => l[a].toNat - 128 - (intOf i).toNat)
          case atStart => exact ⟨0, by omega, rfl, by simpa using ho, he⟩
          case round =>
            clear ho he
            obtain ⟨j, hj, rfl, ho, he⟩ := hrel
            by_cases hjn : j < l[a].toNat - 128
            · have HR : Hid (out ++ List.replicate j l[a+1] ++ [l[a+1]] = out ++ List.replicate (j+1) l[a+1]) := by rw [List.append_assoc, ← List.replicate_succ']; rfl
              have HB : ((out ++ List.replicate j l[a+1]).length + [l[a+1]].length) * 1 ≤ 140737488355328 := by simp; omega
              have HB := Lib.hid HB
              go_wp2_with (first
                | (at_builtin; go_must (refine wpList_appN rfl (.tmp 64) (.tmp 70) _ rfl E_u8 (by omega) w _ vu8 (fun _ => rfl) _ rfl _ _ rfl (out ++ List.replicate j l[a+1]) [l[a+1]] _ rfl ho he rfl HB.out ?_); intro v1 w1 ho1 he1; rw [HR.out] at ho1))
              go_roundw
              case rel => exact ⟨j+1, by omega, by go_num, ho1, he1⟩
              case measure => simp [intOf]; omega
            · obtain rfl : j = l[a].toNat - 128 := by omega
              obtain ⟨A1, c1, rfl, _⟩ := ho.rd (by simp; omega)
              go_wp2
              · have hbig : ((1000 : Int) < (out.length : Int) + ((l[a].toNat - 128 : Nat) : Int)) := by assumption
                have HN2 : Hid (unpack l = none) := hs.out.trans (if_pos (by omega))
                go_ret2; rw [HN2.out]; exact ⟨_, rfl, OwnL.empty he, Ext_alloc _ he⟩
              · have hsm : (out.length : Int) + ((l[a].toNat - 128 : Nat) : Int) ≤ 1000 := by assumption
                have hs2 := hs.out.trans (if_neg (by omega))
                rw [HD.out] at hs2
                go_roundw
                case rel => exact ⟨a + 2, out ++ List.replicate (l[a].toNat - 128) l[a+1], by omega, by go_num, by simpa using ho, by simp; omega, hs2.symm, he⟩
                case measure => simp [intOf]; omega
    · go_wp2
      go_ret2
      have hn := hs.out.symm.trans (unpackAt_end l a out (by omega))
      rw [hn]
      exact ⟨_, rfl, ho, he⟩


end Go.Proofs.YtdbbdoldndnbhaaDoor

/- The walk of the law on UnpackBytes. -/
namespace Go.Proofs.YtdbbdoldndnbhaaDoor
open Go.RowKit Go.Sort

theorem unpackF_le : ∀ f b out o, unpackF f b out = some o → out.length ≤ 1000 → o.length ≤ 1000 := by
  intro f
  induction f with
  | zero => intro b out o h hl; cases b with
    | nil => simp only [unpackF, Option.some.injEq] at h; subst h; exact hl
    | cons => simp [unpackF] at h
  | succ f ih =>
    intro b out o h hl
    cases b with
    | nil => simp only [unpackF, Option.some.injEq] at h; subst h; exact hl
    | cons x t =>
      simp only [unpackF] at h
      split at h
      · cases h
      · split at h
        · split at h
          · cases h
          · split at h
            · cases h
            · exact ih _ _ _ h (by omega)
        · split at h
          · cases h
          · exact ih _ _ _ h (by omega)
theorem unpack_le (l : List UInt8) : ((unpack l).getD []).length ≤ 1000 := by
  cases h : unpack l with
  | none => simp
  | some o => exact unpackF_le _ _ _ _ h (by simp)

end Go.Proofs.YtdbbdoldndnbhaaDoor

/- DecodeRecord of the program and of the reference. -/
namespace Go.Proofs.YtdbbdoldndnbhaaDoor
open Go.RowKit Go.Sort

/-- what a call of DecodeRecord hands back -/
def DecOut (r : Option DRec) (j : Int) (w : World) (e : Ending) (w' : World) : Prop :=
  ∃ v, e = .returned (.tuple #[vrec (r.getD .zero).k (r.getD .zero).nm (r.getD .zero).ver v, .int .i64 j, .bool r.isSome]) ∧ OwnL vu8 5 w w' v (r.getD .zero).l ∧ Ext w w'
theorem DecOut.no {j : Int} {w w' : World} (he : Ext w w') : DecOut none j w (.returned (.tuple #[.agg #[.int .i64 0, .string ⟨#[]⟩, .int .i64 0, .slice none 0 0], .int .i64 j, .bool false])) w' := ⟨_, rfl, OwnL.nil _ _, he⟩

theorem dec_neg {b : List UInt8} {a : Int} (h : a < 0) : dec b a = none ∧ decEnd b a = a := by
  have h1 : dec b a = none := by unfold dec; rw [if_pos h]
  exact ⟨h1, by unfold decEnd; rw [h1]; rfl⟩
theorem dec_nat (b : List UInt8) (n : Nat) : dec b (n : Int) = decN b n := by
  unfold dec; rw [if_neg (by omega)]; rfl
theorem dec_no {b : List UInt8} {n : Nat} (h : decN b n = none) : dec b (n : Int) = none ∧ decEnd b (n : Int) = n := by
  have h1 : dec b (n : Int) = none := by rw [dec_nat]; exact h
  exact ⟨h1, by unfold decEnd; rw [h1]; rfl⟩
theorem dec_yes {b : List UInt8} {n : Nat} {r : DRec} (h : decN b n = some r) : dec b (n : Int) = some r ∧ decEnd b (n : Int) = ((n + nmAt b n + 6 + szAt b n : Nat) : Int) := by
  have h1 : dec b (n : Int) = some r := by rw [dec_nat]; exact h
  refine ⟨h1, ?_⟩
  unfold decEnd
  rw [h1, Int.toNat_natCast]
  simp
theorem getD_of_lt {l : List UInt8} {i : Nat} (h : i < l.length) : l.getD i 0 = l[i] := by simp [h]

section
variable {P : Program} {ops : Array Oper} {rest : List Oper} {o : Oper} {a : Act} {Q : Exit → Act → World → Prop}
/-- copy onto the whole of a row of the call's own -/
theorem wpList_copyL (hgd : o.guard = none) (d s : Operand) (dT sT : TypeId) (ho : o.op = .call { callee := .builtin .copy, args := #[d, s], argTypes := #[dT, sT] })
    {e : TypeId} {bytes : Nat} {z : Value} (hE : Elem P dT e 1 bytes z) {α : Type} (f : α → Value) (hf : ∀ x, (f x).oneCell' = true) (w0 w : World) (A : Option Addr) (n c : Nat) (hd : a.eval d = .slice A n c)
    (xs : List Value) (hown : Own e 1 w0 w (.slice A n c) n xs) (he : Ext w0 w) (sp : Option Addr) (sLen sCap : Nat) (hs : a.eval s = .slice sp sLen sCap)
    (ys : List α) (hy : ys.length = n) (hn : n ≤ sLen) (hA : 0 < ys.length → ∃ ad, sp = some ad ∧ ∀ j u, (ys.map f)[j]? = some u → w.cell? (ad.add j) = some u)
    (h : ∀ w', OwnL f e w0 w' (.slice A n c) ys → Ext w0 w' → wpList P ops Q rest (a.put o.dst (goInt n)) w') :
    wpList P ops Q (o :: rest) a w := by
  obtain ⟨i0, hi0, hz0, hz1, hz2⟩ := info_parts hE.hi
  have hsz : (P.info? e).map (·.size) = some 1 := by rw [hi0]; simp [hz1]
  rcases hown.2 with ⟨hv, rfl⟩ | ⟨g, cap, cur, hv, hb, hg, hnc, hcm, hcs, htake⟩
  · obtain rfl : ys = [] := List.eq_nil_of_length_eq_zero hy
    refine wpList_copy_nothing hgd d s dT sT ho e hE.ht hsz A sp 0 c sLen sCap hd hs (by simp) ?_
    exact h w (by rw [hv]; exact OwnL.nil _ _) he
  · injection hv with h1 _ h3
    subst h1; subst h3
    have hlen : (ys.map f).length = n := by simpa using hy
    refine wpList_copy_splice hgd d s dT sT ho e hE.ht hsz (some ⟨g, 0, none⟩) sp n c sLen sCap hd hs g 0 cur.toList e hg (ys.map f) (by rw [hlen]; exact (Nat.min_eq_right hn).symm)
      (fun hp => ⟨rfl, hA (by simpa using hp)⟩) (by simp; omega) (fun u hu => by obtain ⟨x, _, rfl⟩ := List.mem_map.1 hu; exact hf x) w0.heap.size w0 he hb ?_
    intro w' hg' hb'
    have hl' : (ys.map f).length = n * 1 := by rw [hlen]; omega
    have hnn : (goInt (ys.map f).length) = goInt n := by rw [hlen]
    rw [hnn]
    refine h w' ?_ hb'
    have hg'' := hg'.out
    unfold OwnL
    rw [hy]
    refine ⟨hl', .inr ⟨g, c, _, rfl, hb, hg'', hnc, hcm, ?_, ?_⟩⟩
    · rw [← hcs]
      have := length_splice cur.toList 0 (ys.map f) (by rw [hlen]; simp; omega)
      simpa using this
    · unfold splice
      rw [List.take_zero, List.nil_append, List.take_append_of_le_length (by omega), List.take_of_length_le (by omega)]
end
/-- a block of four cells, written one by one -/
theorem stored4 {w1 : World} {g : Nat} {x0 x1 x2 x3 : Value} (h : ∀ i, w1.cell? ⟨g, i, none⟩ = #[x0, x1, x2, x3][i]?) :
    (∀ y0, (w1.setCell ⟨g, 0, none⟩ y0).cell? ⟨g, 0, none⟩ = some y0) ∧ (∀ y0 y1, ((w1.setCell ⟨g, 0, none⟩ y0).setCell ⟨g, 1, none⟩ y1).cell? ⟨g, 1, none⟩ = some y1) ∧
    (∀ y0 y1 y2, (((w1.setCell ⟨g, 0, none⟩ y0).setCell ⟨g, 1, none⟩ y1).setCell ⟨g, 2, none⟩ y2).cell? ⟨g, 2, none⟩ = some y2) ∧
    (∀ y0 y1 y2 y3, ((((w1.setCell ⟨g, 0, none⟩ y0).setCell ⟨g, 1, none⟩ y1).setCell ⟨g, 2, none⟩ y2).setCell ⟨g, 3, none⟩ y3).cell? ⟨g, 3, none⟩ = some y3) := by
  have h0 := h 0; have h1 := h 1; have h2 := h 2; have h3 := h 3
  simp at h0 h1 h2 h3
  refine ⟨fun y0 => ?_, fun y0 y1 => ?_, fun y0 y1 y2 => ?_, fun y0 y1 y2 y3 => ?_⟩
  · apply World.cell?_setCell_same; exact h0
  · apply World.cell?_setCell_same (u := x1); simp [World.cell?_setCell_other, h1]
  · apply World.cell?_setCell_same (u := x2); simp [World.cell?_setCell_other, h2]
  · apply World.cell?_setCell_same (u := x3); simp [World.cell?_setCell_other, h3]
theorem strOfNums_bytes (p : List UInt8) : strOfNums (p.map fun x => (x.toNat : Int)) = ⟨p.toArray⟩ := by
  unfold strOfNums
  have : (p.map fun x => (x.toNat : Int)).map (fun n => UInt8.ofNat n.toNat) = p := by
    rw [List.map_map]
    conv => rhs; rw [← List.map_id p]
    apply List.map_congr_left
    intro x _
    simp
  rw [this]
/-- two bytes joined -/
theorem or_join {x y : Nat} (hx : x < 256) (hy : y < 256) : bits .or .i64 ((x : Int) * 256) (y : Int) = ((256 * x + y : Nat) : Int) := by
  rw [show (x : Int) * 256 = ((x * 256 : Nat) : Int) by omega]
  show IntKind.i64.wrap ((BitVec.ofInt 64 ((x * 256 : Nat) : Int) ||| BitVec.ofInt 64 (y : Int)).toNat : Int) = _
  rw [BitVec.toNat_or, ofInt_u64 _ (by omega), ofInt_u64 _ (by omega), nat_join8 _ _ (by omega) hy, IntKind.wrap_i64]
  omega
/-- string(b[i:i+n]) of a row that reads as l -/
theorem run_str {w : World} {b off : Nat} {l : List UInt8} (h : ∀ i (h : i < l.length), w.cell? ⟨b, off + i, none⟩ = some (vu8 l[i])) (lo n cap : Nat) (hn : lo + n ≤ l.length) :
    (convert 44 9 (.slice (some ⟨b, off + lo, none⟩) n cap)).run Tryd.prog w = .ok (.string ⟨((l.drop lo).take n).toArray⟩) w := by
  have hw : ((l.drop lo).take n).length = n := by simp; omega
  have h1 := run_convert_bytes_arg (P := Tryd.prog) w 44 5 Tryd.underlying44 Tryd.underlying5 b (off + lo) n cap (((l.drop lo).take n).map fun x => (x.toNat : Int)) (by rw [List.length_map]; exact hw) (fun i hi => by
    rw [Nat.add_assoc, h (lo + i) (by omega)]
    have e1 : ((l.drop lo).take n)[i]? = some l[lo + i] := by
      rw [List.getElem?_take_of_lt hi, List.getElem?_drop, List.getElem?_eq_getElem (by omega)]
    simp only [List.getD, List.getElem?_map, e1, Option.map_some, Option.getD_some, vu8]) 9 Tryd.underlying9
  rw [h1, strOfNums_bytes]

set_option maxRecDepth 100000 in
set_option maxHeartbeats 4000000 in
theorem iDecodeRecord_c (A : Option Addr) (l : List UInt8) (c : Nat) (a : Int) (w : World) (h : Bs w A l c) (ha : (Lit.int .i64 a).wf = true) :
    Calls Tryd.prog 37 #[.slice A l.length c, .int .i64 a] w (DecOut (dec l a) (decEnd l a) w) := by
  have hl := h.len
  have hcap := h.cap
  have ez := Ext_alloc (.cells #[.int .i64 0, .string ⟨#[]⟩, .int .i64 0, .slice none 0 0] 49) (Ext.refl w)
  by_cases h0 : a < 0
  · obtain ⟨q1, q2⟩ := dec_neg (b := l) h0
    rw [q1, q2]; clear q1 q2
    go_enter Tryd.func37, Tryd.ntmps37
    go_wp2
    refine bodyPost_ret (v := .tuple #[.agg #[.int .i64 0, .string ⟨#[]⟩, .int .i64 0, .slice none 0 0], .int .i64 a, .bool false]) (by simp [results, Tryd.results37, go_sem]) rfl (DecOut.no ez)
  · obtain ⟨n, rfl⟩ := Int.eq_ofNat_of_zero_le (show 0 ≤ a by omega)
    clear h0 ha
    by_cases h1 : l.length < n + 2
    · have hd : decN l n = none := by unfold decN; rw [if_pos (by omega)]
      obtain ⟨q1, q2⟩ := dec_no hd
      rw [q1, q2]; clear q1 q2 hd
      by_cases h2 : l.length < n
      all_goals
        go_enter Tryd.func37, Tryd.ntmps37
        go_wp2
        refine bodyPost_ret (v := .tuple #[.agg #[.int .i64 0, .string ⟨#[]⟩, .int .i64 0, .slice none 0 0], .int .i64 n, .bool false]) (by simp [results, Tryd.results37, go_sem]) rfl (DecOut.no ez)
    · obtain ⟨b, off, rfl, hb, hcs⟩ := h.base (by omega)
      obtain ⟨nm, hnm⟩ : ∃ nm, l[n+1].toNat = nm := ⟨_, rfl⟩
      have hnm8 : nm < 256 := by rw [← hnm]; exact UInt8.toNat_lt _
      have HNM : Hid (nmAt l n = nm) := by show _ = _; unfold nmAt; rw [getD_of_lt (by omega)]; exact hnm
      have hc1 : ∀ w', Ext w w' → w'.cell? ⟨b, off + n + 1, none⟩ = some (.int .u8 (nm : Int)) := by
        intro w' e; have := hcs w' e (n+1) (by omega); rw [← Nat.add_assoc] at this; rw [this, vu8, hnm]
      clear hnm
      by_cases h2 : l.length < n + nm + 6
      · have hd : decN l n = none := by unfold decN; rw [HNM.out, if_pos (by omega)]
        obtain ⟨q1, q2⟩ := dec_no hd
        rw [q1, q2]; clear q1 q2 hd hcs h
        go_enter Tryd.func37, Tryd.ntmps37
        go_wp2
        refine bodyPost_ret (v := .tuple #[.agg #[.int .i64 0, .string ⟨#[]⟩, .int .i64 0, .slice none 0 0], .int .i64 n, .bool false]) (by simp [results, Tryd.results37, go_sem]) rfl (DecOut.no ez)
      · obtain ⟨x3, hx3⟩ : ∃ x, l[n + nm + 3].toNat = x := ⟨_, rfl⟩
        obtain ⟨x4, hx4⟩ : ∃ x, l[n + nm + 4].toNat = x := ⟨_, rfl⟩
        have hx38 : x3 < 256 := by rw [← hx3]; exact UInt8.toNat_lt _
        have hx48 : x4 < 256 := by rw [← hx4]; exact UInt8.toNat_lt _
        have HSZ : Hid (szAt l n = 256 * x3 + x4) := by show _ = _; unfold szAt; rw [HNM.out, getD_of_lt (by omega), getD_of_lt (by omega), hx3, hx4]
        have hc3 : ∀ w', Ext w w' → w'.cell? ⟨b, off + n + (nm + 3), none⟩ = some (.int .u8 (x3 : Int)) := by
          intro w' e; have := hcs w' e (n+nm+3) (by omega); rw [show off + (n + nm + 3) = off + n + (nm + 3) by omega] at this; rw [this, vu8, hx3]
        have hc4 : ∀ w', Ext w w' → w'.cell? ⟨b, off + n + (nm + 4), none⟩ = some (.int .u8 (x4 : Int)) := by
          intro w' e; have := hcs w' e (n+nm+4) (by omega); rw [show off + (n + nm + 4) = off + n + (nm + 4) by omega] at this; rw [this, vu8, hx4]
        clear hx3 hx4
        have hor := or_join hx38 hx48
        obtain ⟨sz, hsz⟩ : ∃ sz, 256 * x3 + x4 = sz := ⟨_, rfl⟩
        have hsz8 : sz < 65536 := by omega
        rw [hsz] at hor HSZ
        clear hsz
        have B := fun w' (e : Ext (w.alloc (.cells #[.int .i64 0, .string ⟨#[]⟩, .int .i64 0, .slice none 0 0] 49)) w') => boxed e
        have F := fun w' (e : Ext (w.alloc (.cells #[.int .i64 0, .string ⟨#[]⟩, .int .i64 0, .slice none 0 0] 49)) w') => boxed_free e
        by_cases h3 : l.length < n + nm + 6 + sz
        · have hd : decN l n = none := by unfold decN; rw [HNM.out, HSZ.out, if_pos (by omega)]
          obtain ⟨q1, q2⟩ := dec_no hd
          rw [q1, q2]; clear q1 q2 hd hcs h
          go_enter Tryd.func37, Tryd.ntmps37
          go_wp2
          refine wp_region_quiet_below (by kernel_rfl) (by kernel_rfl) ?_
          repeat (go_big_quiet_step (fail))
          refine wpQuiet_nil ?_
          rintro w1 ⟨⟨nq, osq⟩, hq⟩
          have ew1 := ext_of_q hq
          clear hq nq osq
          go_wp2
          obtain ⟨s0, s1, s2, s3⟩ := stored4 (B _ ew1)
          refine bodyPost_ret (v := .tuple #[.agg #[.int .i64 0, .string ⟨#[]⟩, .int .i64 0, .slice none 0 0], .int .i64 n, .bool false]) (by simp [results, Tryd.results37, go_sem, s0, s1, s2, s3]) rfl (DecOut.no ?_)
          exact ((((ez.trans ew1).setCell (Nat.le_refl _) _).setCell (Nat.le_refl _) _).setCell (Nat.le_refl _) _).setCell (Nat.le_refl _) _
        · obtain ⟨p, hp⟩ : ∃ p, (l.drop (n + nm + 5)).take sz = p := ⟨_, rfl⟩
          have hpl : p.length = sz := by rw [← hp]; simp; omega
          subst hpl
          have HP := Lib.hid hp; clear hp
          have HPC : Hid (∀ w', Ext w w' → ∀ j u, (p.map vu8)[j]? = some u → w'.cell? ((⟨b, off + n + (nm + 5), none⟩ : Addr).add j) = some u) := by
            intro w' e j u hu
            rw [← HP.out] at hu
            have := part_cells (hcs w' e) (n + nm + 5) p.length j u hu
            rwa [show off + (n + nm + 5) = off + n + (nm + 5) by omega] at this
          have HPL : Hid (p.length ≤ 140737488351232) := by show _ ≤ _; omega
          have H := Lib.hid h; have HCS := Lib.hid hcs; clear h hcs
          obtain ⟨d, hdd⟩ : ∃ d, (unpack p).getD [] = d := ⟨_, rfl⟩
          obtain ⟨ok, hok⟩ : ∃ ok, (unpack p).isSome = ok := ⟨_, rfl⟩
          have hd1 : d.length ≤ 1000 := by have := unpack_le p; rw [hdd] at this; exact this
          have HDL : Hid (d.length ≤ 140737488351232) := by show _ ≤ _; omega
          obtain ⟨x0, hx0⟩ : ∃ x, l[n].toNat = x := ⟨_, rfl⟩
          obtain ⟨x2, hx2⟩ : ∃ x, l[n + nm + 2].toNat = x := ⟨_, rfl⟩
          have hx08 : x0 < 256 := by rw [← hx0]; exact UInt8.toNat_lt _
          have hx28 : x2 < 256 := by rw [← hx2]; exact UInt8.toNat_lt _
          have hc0 : ∀ w', Ext w w' → w'.cell? ⟨b, off + n, none⟩ = some (.int .u8 (x0 : Int)) := by
            intro w' e; have := HCS.out w' e n (by omega); rw [this, vu8, hx0]
          have hc2 : ∀ w', Ext w w' → w'.cell? ⟨b, off + n + (nm + 2), none⟩ = some (.int .u8 (x2 : Int)) := by
            intro w' e; have := HCS.out w' e (n+nm+2) (by omega); rw [show off + (n + nm + 2) = off + n + (nm + 2) by omega] at this; rw [this, vu8, hx2]
          obtain ⟨NM, hNM⟩ : ∃ NM : ByteArray, ⟨((l.drop (n + 2)).take nm).toArray⟩ = NM := ⟨_, rfl⟩
          have hcv : ∀ w' cap, Ext w w' → (convert 44 9 (.slice (some ⟨b, off + n + 2, none⟩) nm cap)).run Tryd.prog w' = .ok (.string NM) w' := by
            intro w' cap e
            have := run_str (HCS.out w' e) (n + 2) nm cap (by omega)
            rwa [← Nat.add_assoc, hNM] at this
          have HREC : Hid (recAt l n d = ⟨x0, NM, x2, d⟩) := by
            show _ = _; unfold recAt; rw [HNM.out, getD_of_lt (by omega), getD_of_lt (by omega), hx0, hx2, hNM]
          have hNMs : NM.size ≤ 9223372036854775807 := by
            have : NM.size = nm := by rw [← hNM]; show ((l.drop (n+2)).take nm).toArray.size = _; simp; omega
            omega
          clear hx0 hx2 hNM
          have CU := Lib.hid (fun A c w h => iUnpackBytes_c A p c w h)
          rw [hdd, hok] at CU
          have HDEC0 : ok = false → decN l n = none := by
            intro hf
            have : unpack p = none := by
              cases hu : unpack p with
              | none => rfl
              | some x => rw [hu] at hok; rw [hf] at hok; cases hok
            unfold decN
            rw [HNM.out, HSZ.out, if_neg (by omega), HP.out, this]
          have HDEC1 : ok = true → decN l n = if validRec x0 NM x2 d.length && (encRec x0 NM x2 d == (l.drop n).take (nm + 6 + p.length)) then some ⟨x0, NM, x2, d⟩ else none := by
            intro ht
            have : unpack p = some d := by
              cases hu : unpack p with
              | none => rw [hu] at hok; rw [ht] at hok; cases hok
              | some x => rw [hu] at hdd; rw [← hdd]; rfl
            unfold decN
            rw [HNM.out, HSZ.out, if_neg (by omega), HP.out, this]
            simp only [HREC.out, DRec.ok, DRec.enc]
          have HDEC0 := Lib.hid HDEC0; have HDEC1 := Lib.hid HDEC1
          clear hok hdd
          go_enter Tryd.func37, Tryd.ntmps37
          go_wp2
          refine wp_region_quiet_below (by kernel_rfl) (by kernel_rfl) ?_
          repeat (go_big_quiet_step (fail))
          refine wpQuiet_nil ?_
          rintro w1 ⟨⟨nq, osq⟩, hq⟩
          have ew1 := ext_of_q hq
          clear hq nq osq
          have e1 := ew1
          have e1' := ez.trans e1
          go_wp2_with (first
            | (at_make; refine wpList_mk rfl _ _ _ rfl E_u8 _ _ e1 p.length rfl rfl (by omega) (by simp [maxLen]; omega) ?_; intro w2 ho2 he2 _; have he2' := ez.trans he2)
            | (refine wpList_copyL rfl (.tmp 70) (.tmp 74) _ _ rfl E_u8 vu8 (fun _ => rfl) _ _ _ p.length _ rfl _ ho2 he2 _ _ _ rfl p rfl (by omega) (fun _ => ⟨_, rfl, HPC.out _ he2'⟩) ?_; intro w3 ho3 he3; have he3' := ez.trans he3; obtain ⟨A3, c3, hv3, hr3⟩ := ho3.rd HPL.out; injection hv3 with q1 _ q2; subst q1; subst q2)
            | (go_at_call 71; refine (CU.out _ _ _ hr3).mono ?_; rintro _ w4 ⟨v4, rfl, ho4, he4⟩; have he34 := he3.trans he4; have he34' := ez.trans he34; obtain ⟨A4, c4, hv4, hr4⟩ := OwnL.rd ho4 HDL.out; subst hv4))
          have hcv' := fun w' cap (e : Ext w4 w') => hcv w' cap (he34'.trans e)
          have hc0' := fun w' (e : Ext w4 w') => hc0 w' (he34'.trans e)
          have hc2' := fun w' (e : Ext w4 w') => hc2 w' (he34'.trans e)
          clear hcv hc0 hc2 hc1 hc3 hc4
          have g1 : (0 : Int) < ((l.length - n : Nat) : Int) := by omega
          have g1' : 0 < l.length - n := by omega
          have g2 : IntKind.i64.wrap (2 + (nm : Int)) = 2 + (nm : Int) := IntWalk.i64_in _ (by omega)
          have g3 : (0 : Int) ≤ 2 + (nm : Int) := by omega
          have g4 : (2 + (nm : Int)).toNat = 2 + nm := by omega
          have g5 : (2 : Int) ≤ 2 + (nm : Int) := by omega
          have g6 : 2 + (nm : Int) ≤ ((c - n : Nat) : Int) := by omega
          have g6' : 2 + nm ≤ c - n := by omega
          have g6'' : ¬ c - n = 2 := by omega
          have g7 : IntKind.i64.wrap ((nm : Int) + 2) = (nm : Int) + 2 := IntWalk.i64_in _ (by omega)
          have g8 : (nm : Int) + 2 < ((l.length - n : Nat) : Int) := by omega
          have g8' : nm + 2 < l.length - n := by omega
          have g9 : ((nm : Int) + 2).toNat = nm + 2 := by omega
          have g9' : (0 : Int) ≤ (nm : Int) + 2 := by omega
          have g10 : IntKind.i64.wrap (x0 : Int) = (x0 : Int) := IntWalk.i64_in _ (by omega)
          have g11 : IntKind.i64.wrap (x2 : Int) = (x2 : Int) := IntWalk.i64_in _ (by omega)
          go_region_held3 (fun w' => Ext w4 w') (first | assumption | exact Ext_drew (Ext.refl _) | exact Ext_drew (Ext_alloc _ (Ext.refl _)) | exact Ext_alloc _ (Ext_drew (Ext.refl _)) | exact Ext.trans (by assumption) (by assumption)) (first | fail)
          have ebx := Ext_alloc (.cells #[.int .i64 x0, .string NM, .int .i64 x2, .slice A4 d.length c4] 49) (Ext.refl w4)
          generalize hw5 : (w4.alloc (.cells #[.int .i64 x0, .string NM, .int .i64 x2, .slice A4 d.length c4] 49)).drew = w5
          have e5 : Ext (w4.alloc (.cells #[.int .i64 x0, .string NM, .int .i64 x2, .slice A4 d.length c4] 49)) w5 := by rw [← hw5]; exact Ext_drew (Ext.refl _)
          clear hw5
          have D := fun w' (e : Ext w5 w') => boxed (e5.trans e)
          have e45 := ebx.trans e5
          have r5 := hr4.ext e45
          have o5 := OwnL.ext ho4 e45
          have z5 := he34.trans e45
          have hs3 : w.heap.size < w3.heap.size := by have := he3.size; simp at this; omega
          have HEE : Hid (Ext w w3) := he3'
          have B5 := fun w' (e : Ext w5 w') => B w' (z5.trans e)
          have F5 := fun w' (e : Ext w5 w') => F w' (z5.trans e)
          clear hcv' hc0' hc2' ho3 hr3 he2 he2' ho2 e1 e1' ew1 he3 ho4 hr4 B F
          have keyno : ∀ w6, Ext w5 w6 → decN l n = none → DecOut (dec l (n : Int)) (decEnd l (n : Int)) w (.returned (.tuple #[.agg #[.int .i64 0, .string ⟨#[]⟩, .int .i64 0, .slice none 0 0], .int .i64 n, .bool false]))
              ((((w6.setCell ⟨w.heap.size, 0, none⟩ (.int .i64 0)).setCell ⟨w.heap.size, 1, none⟩ (.string ⟨#[]⟩)).setCell ⟨w.heap.size, 2, none⟩ (.int .i64 0)).setCell ⟨w.heap.size, 3, none⟩ (.slice none 0 0)) := by
            intro w6 e6 hd
            obtain ⟨q1, q2⟩ := dec_no hd
            rw [q1, q2]
            exact DecOut.no (((((ez.trans (z5.trans e6)).setCell (Nat.le_refl _) _).setCell (Nat.le_refl _) _).setCell (Nat.le_refl _) _).setCell (Nat.le_refl _) _)
          have KN := Lib.hid keyno; clear keyno
          cases ok
          · have HD0 : Hid (decN l n = none) := HDEC0.out rfl
            clear HDEC0 HDEC1
            go_wp2_with fail
            refine wp_region_quiet_below (by kernel_rfl) (by kernel_rfl) ?_
            repeat (go_big_quiet_step (fail))
            refine wpQuiet_nil ?_
            rintro w6 ⟨⟨nq, osq⟩, hq⟩
            have ew6 := ext_of_q hq
            clear hq nq osq
            go_wp2
            obtain ⟨s0, s1, s2, s3⟩ := stored4 (B5 _ ew6)
            exact bodyPost_ret (v := .tuple #[.agg #[.int .i64 0, .string ⟨#[]⟩, .int .i64 0, .slice none 0 0], .int .i64 n, .bool false]) (by simp [results, Tryd.results37, go_sem, s0, s1, s2, s3]) rfl (KN.out _ ew6 HD0.out)
          · have C1 := Lib.hid (fun w => iIsValidRecord_c x0 NM x2 A4 d c4 w HDL.out hNMs)
            have HD1 := Lib.hid (HDEC1.out rfl)
            clear HDEC0 HDEC1
            cases hV : validRec x0 NM x2 d.length
            · rw [hV] at C1 HD1
              have HD2 : Hid (decN l n = none) := HD1.out
              unfold vrec at C1
              clear HD1
              go_wp2_with fail
              refine wp_region_quiet_below (by kernel_rfl) (by kernel_rfl) ?_
              repeat (go_big_quiet_step ((go_at_call 35; exact Calls.regrown_of (C1.out _))))
              refine wpQuiet_nil ?_
              rintro w6 ⟨⟨nq, osq⟩, hq⟩
              have ew6 := ext_of_q hq
              clear hq nq osq
              have e6 := ew6
              go_wp2
              obtain ⟨s0, s1, s2, s3⟩ := stored4 (B5 _ e6)
              exact bodyPost_ret (v := .tuple #[.agg #[.int .i64 0, .string ⟨#[]⟩, .int .i64 0, .slice none 0 0], .int .i64 n, .bool false]) (by simp [results, Tryd.results37, go_sem, s0, s1, s2, s3]) rfl (KN.out _ e6 HD2.out)
            · rw [hV] at C1 HD1
              have C2 := Lib.hid (fun w h => iEncodeRecord_c x0 NM x2 A4 d c4 w h hNMs)
              have hEl := encRec_le x0 NM x2 d
              obtain ⟨E, hE⟩ : ∃ E, encRec x0 NM x2 d = E := ⟨_, rfl⟩
              rw [hE] at HD1 C2 hEl
              have HEL : Hid (E.length ≤ 140737488351232) := by show _ ≤ _; omega
              obtain ⟨q, hq⟩ : ∃ q, (l.drop n).take (nm + 6 + p.length) = q := ⟨_, rfl⟩
              have hql : q.length = nm + 6 + p.length := by rw [← hq]; simp; omega
              have rq : ∀ w', Ext w w' → Bs w' (some ⟨b, off + n, none⟩) q (c - n) := by
                intro w' e
                refine ⟨⟨by omega, by omega, fun _ => ⟨b, off + n, rfl, Nat.lt_of_lt_of_le hb e.size, fun w2 e2 i hi => ?_⟩⟩, by omega⟩
                have h5 := HCS.out w2 (e.trans e2) (n + i) (by omega)
                rw [← Nat.add_assoc] at h5
                rw [h5]
                simp only [← hq, List.getElem_take, List.getElem_drop]
              rw [hq] at HD1
              have CE := Lib.hid (fun A' c' w' (h : Bs w' A' E c') (e : Ext w w') => iEqualBytes_c A' (some ⟨b, off + n, none⟩) E q c' (c - n) w' h (rq w' e))
              rw [hql] at CE
              obtain ⟨r, hr⟩ : ∃ r, (E == q) = r := ⟨_, rfl⟩
              rw [hr] at CE HD1
              clear rq hq hE hql hr
              have k1 : IntKind.i64.wrap ((nm : Int) + 6) = (nm : Int) + 6 := IntWalk.i64_in _ (by omega)
              have k2 : IntKind.i64.wrap ((nm : Int) + 6 + (p.length : Int)) = (nm : Int) + 6 + (p.length : Int) := IntWalk.i64_in _ (by omega)
              have k3 : (0 : Int) ≤ (nm : Int) + 6 + (p.length : Int) := by omega
              have k4 : ((nm : Int) + 6 + (p.length : Int)).toNat = nm + 6 + p.length := by omega
              have k5 : (nm : Int) + 6 + (p.length : Int) ≤ ((c - n : Nat) : Int) := by omega
              have k5' : nm + 6 + p.length ≤ c - n := by omega
              have EW : Hid (Ext w w5) := ez.trans z5
              unfold vrec at C1 C2
              go_wp2_with fail
              go_region_held3 (fun w' => Ext w5 w') (first | assumption | exact Ext_drew (Ext.refl _) | exact Ext.trans (by assumption) (by assumption)) (first
                | (go_at_call 35; refine (C1.out _).mono ?_; rintro _ w6 ⟨rfl, he6⟩)
                | (go_at_call 33; refine (C2.out _ (r5.ext (by assumption))).mono ?_; rintro _ w7 ⟨v7, rfl, ho7, he7⟩; obtain ⟨A7, c7, rfl, r7⟩ := OwnL.rd ho7 HEL.out)
                | (go_at_call 72; refine (CE.out _ _ _ r7 (EW.out.trans (by assumption))).mono ?_; rintro _ w8 ⟨rfl, he8⟩))
              have e8 : Ext w5 w8 := by assumption
              clear he8 he7 r7 ho7 he6
              cases r
              · have HD2 : Hid (decN l n = none) := HD1.out
                go_wp2
                obtain ⟨s0, s1, s2, s3⟩ := stored4 (B5 _ e8)
                exact bodyPost_ret (v := .tuple #[.agg #[.int .i64 0, .string ⟨#[]⟩, .int .i64 0, .slice none 0 0], .int .i64 n, .bool false]) (by simp [results, Tryd.results37, go_sem, s0, s1, s2, s3]) rfl (KN.out _ e8 HD2.out)
              · have HD2 : Hid (decN l n = some ⟨x0, NM, x2, d⟩) := HD1.out
                clear HD1
                go_wp2
                obtain ⟨s0, s1, s2, s3⟩ := stored4 (B5 _ e8)
                refine bodyPost_ret (v := .tuple #[.agg #[.int .i64 x0, .string NM, .int .i64 x2, .slice A4 d.length c4], .int .i64 ((n : Int) + (nm : Int) + 6 + (p.length : Int)), .bool true]) (by simp [results, Tryd.results37, go_sem, s0, s1, s2, s3]) rfl ?_
                obtain ⟨q1, q2⟩ := dec_yes HD2.out
                rw [q1, q2, HNM.out, HSZ.out]
                refine ⟨.slice A4 d.length c4, ?_, ?_, ?_⟩
                · rw [show ((n + nm + 6 + p.length : Nat) : Int) = (n : Int) + (nm : Int) + 6 + (p.length : Int) by omega]
                  rfl
                · exact OwnL.lower (ownsRow_setCell_below (ownsRow_setCell_below (ownsRow_setCell_below (ownsRow_setCell_below (OwnL.ext o5 e8) hs3 _) hs3 _) hs3 _) hs3 _) HEE.out
                · exact ((((EW.out.trans e8).setCell (Nat.le_refl _) _).setCell (Nat.le_refl _) _).setCell (Nat.le_refl _) _).setCell (Nat.le_refl _) _
end Go.Proofs.YtdbbdoldndnbhaaDoor

/- DecodeRecord of the reference. -/
namespace Go.Proofs.YtdbbdoldndnbhaaDoor
open Go.RowKit Go.Sort

/-- the number of bytes, the greatest first -/
def beN (l : List UInt8) : Nat := l.foldl (fun n x => 256 * n + x.toNat) 0
theorem beN_take {l : List UInt8} {k : Nat} (h : k < l.length) : beN (l.take (k+1)) = 256 * beN (l.take k) + l[k].toNat := by
  rw [List.take_succ_eq_append_getElem h]; unfold beN; rw [List.foldl_append]; rfl
theorem beN_lt : ∀ (l : List UInt8), l.length ≤ 4 → beN l < 4294967296 := by
  intro l h
  have h8 := fun (x : UInt8) => x.toNat_lt
  match l, h with
  | [], _ => decide
  | [a], _ => have := h8 a; simp [beN]; omega
  | [a, b], _ => have := h8 a; have := h8 b; simp [beN]; omega
  | [a, b, c], _ => have := h8 a; have := h8 b; have := h8 c; simp [beN]; omega
  | [a, b, c, d], _ => have := h8 a; have := h8 b; have := h8 c; have := h8 d; simp [beN]; omega
set_option maxHeartbeats 1000000 in
theorem ReadInteger_c (A : Option Addr) (l : List UInt8) (c : Nat) (w : World) (h : Bs w A l c) (hl : l.length ≤ 4) :
    Gives Tryd.prog 91 #[.slice A l.length c, .bool false] w (.int .i64 (beN l : Nat)) := by
  go_enter Tryd.func91, Tryd.ntmps91
  go_wp2
  go_loopw [5, 6, 7] (fun n i _ wr => ∃ k : Nat, k ≤ l.length ∧ i = .int .i64 k ∧ n = .int .i64 (beN (l.take k) : Nat) ∧ Ext w wr) (fun _ i _ _ => l.length - (intOf i).toNat)
  case atStart => exact ⟨0, by omega, rfl, by simp [beN], Ext.refl _⟩
  case round =>
    obtain ⟨k, hk, rfl, rfl, he⟩ := hrel
    by_cases hlt : k < l.length
    · obtain ⟨b, off, rfl, hb, hc⟩ := h.at k hlt
      have hst := Lib.hid (beN_take hlt)
      have h1 := beN_lt (l.take k) (by simp; omega)
      have h3 := l[k].toNat_lt
      generalize hs : beN (l.take k) = s at *
      clear hs
      go_wp2
      go_roundw
      case rel => exact ⟨k+1, by omega, by go_num, by rw [hst.out]; go_num, he⟩
      case measure => simp [intOf]; omega
    · obtain rfl : k = l.length := by omega
      have ht : beN (l.take l.length) = beN l := by rw [List.take_of_length_le (by omega)]
      have HT := Lib.hid ht; clear ht
      go_wp2
      go_ret
      exact ⟨ret_i64 (by rw [HT.out]), he⟩

set_option maxRecDepth 100000 in
set_option maxHeartbeats 4000000 in
theorem sDecodeRecord_c (A : Option Addr) (l : List UInt8) (c : Nat) (a : Int) (w : World) (h : Bs w A l c) (ha : (Lit.int .i64 a).wf = true) :
    Calls Tryd.prog 73 #[.slice A l.length c, .int .i64 a] w (DecOut (dec l a) (decEnd l a) w) := by
  have hl := h.len
  have hcap := h.cap
  have ez := Ext_alloc (.cells #[.int .i64 0, .string ⟨#[]⟩, .int .i64 0, .slice none 0 0] 49) (Ext.refl w)
  have B := fun w' (e : Ext (w.alloc (.cells #[.int .i64 0, .string ⟨#[]⟩, .int .i64 0, .slice none 0 0] 49)) w') => boxed e
  have F := fun w' (e : Ext (w.alloc (.cells #[.int .i64 0, .string ⟨#[]⟩, .int .i64 0, .slice none 0 0] 49)) w') => boxed_free e
  by_cases h1 : a < 0 ∨ (l.length : Int) < a + 2
  · have hd : dec l a = none ∧ decEnd l a = a := by
      by_cases h0 : a < 0
      · exact dec_neg h0
      · obtain ⟨n, rfl⟩ := Int.eq_ofNat_of_zero_le (show 0 ≤ a by omega)
        exact dec_no (by unfold decN; rw [if_pos (by omega)])
    obtain ⟨q1, q2⟩ := hd
    have HI : Hid ((decide (0 ≤ a) && decide (a ≤ (l.length : Int) - 2)) = false) := by
      show _ = _; rw [Bool.and_eq_false_iff]; simp; omega
    rw [q1, q2]; clear q1 q2 h1
    go_enter Tryd.func73, Tryd.ntmps73
    go_wp2_with (go_at_call 54; refine (l1In_c _ _ _ _).mono ?_; rintro _ w1 ⟨rfl, he1⟩; rw [HI.out])
    obtain ⟨s0, s1, s2, s3⟩ := stored4 (B _ he1)
    refine bodyPost_ret (v := .tuple #[.agg #[.int .i64 0, .string ⟨#[]⟩, .int .i64 0, .slice none 0 0], .int .i64 a, .bool false]) (by simp [results, Tryd.results73, go_sem, s0, s1, s2, s3]) rfl (DecOut.no ?_)
    exact ((((ez.trans he1).setCell (Nat.le_refl _) _).setCell (Nat.le_refl _) _).setCell (Nat.le_refl _) _).setCell (Nat.le_refl _) _
  · obtain ⟨n, rfl⟩ := Int.eq_ofNat_of_zero_le (show 0 ≤ a by omega)
    have hn2 : n + 2 ≤ l.length := by omega
    have HI : Hid ((decide ((0 : Int) ≤ (n : Int)) && decide ((n : Int) ≤ (l.length : Int) - 2)) = true) := by
      show _ = _; simp; omega
    clear ha h1
    obtain ⟨b, off, rfl, hb, hcs⟩ := h.base (by omega)
    obtain ⟨nm, hnm⟩ : ∃ nm, l[n+1].toNat = nm := ⟨_, rfl⟩
    have hnm8 : nm < 256 := by rw [← hnm]; exact UInt8.toNat_lt _
    have HNM : Hid (nmAt l n = nm) := by show _ = _; unfold nmAt; rw [getD_of_lt (by omega)]; exact hnm
    have hc1 : ∀ w', Ext w w' → w'.cell? ⟨b, off + (n + 1), none⟩ = some (.int .u8 (nm : Int)) := by
      intro w' e; have := hcs w' e (n+1) (by omega); rw [this, vu8, hnm]
    clear hnm
    have keyno : ∀ w6, Ext (w.alloc (.cells #[.int .i64 0, .string ⟨#[]⟩, .int .i64 0, .slice none 0 0] 49)) w6 → decN l n = none → DecOut (dec l (n : Int)) (decEnd l (n : Int)) w (.returned (.tuple #[.agg #[.int .i64 0, .string ⟨#[]⟩, .int .i64 0, .slice none 0 0], .int .i64 n, .bool false]))
        ((((w6.setCell ⟨w.heap.size, 0, none⟩ (.int .i64 0)).setCell ⟨w.heap.size, 1, none⟩ (.string ⟨#[]⟩)).setCell ⟨w.heap.size, 2, none⟩ (.int .i64 0)).setCell ⟨w.heap.size, 3, none⟩ (.slice none 0 0)) := by
      intro w6 e6 hd
      obtain ⟨q1, q2⟩ := dec_no hd
      rw [q1, q2]
      exact DecOut.no (((((ez.trans e6).setCell (Nat.le_refl _) _).setCell (Nat.le_refl _) _).setCell (Nat.le_refl _) _).setCell (Nat.le_refl _) _)
    have KN := Lib.hid keyno; clear keyno
    by_cases h2 : l.length < n + nm + 5
    · have HD : Hid (decN l n = none) := by show _ = _; unfold decN; rw [HNM.out, if_pos (by omega)]
      clear hcs h
      go_enter Tryd.func73, Tryd.ntmps73
      go_wp2_with (go_at_call 54; refine (l1In_c _ _ _ _).mono ?_; rintro _ w1 ⟨rfl, he1⟩; rw [HI.out]; have he1' := ez.trans he1)
      obtain ⟨s0, s1, s2, s3⟩ := stored4 (B _ he1)
      exact bodyPost_ret (v := .tuple #[.agg #[.int .i64 0, .string ⟨#[]⟩, .int .i64 0, .slice none 0 0], .int .i64 n, .bool false]) (by simp [results, Tryd.results73, go_sem, s0, s1, s2, s3]) rfl (KN.out _ he1 HD.out)
    · obtain ⟨sz, hsz⟩ : ∃ sz, szAt l n = sz := ⟨_, rfl⟩
      have hszv : beN [l[n + nm + 3], l[n + nm + 4]] = sz := by
        rw [← hsz]; unfold szAt; rw [HNM.out, getD_of_lt (by omega), getD_of_lt (by omega)]; simp [beN]
      have hsz8 : sz < 65536 := by
        rw [← hszv]; have := (l[n+nm+3]).toNat_lt; have := (l[n+nm+4]).toNat_lt; simp [beN]; omega
      have HSZ := Lib.hid hsz; clear hsz
      have CR : Hid (∀ w' o len cap, o = off + (n + nm + 3) → len = 2 → 2 ≤ cap → Ext w w' → Gives Tryd.prog 91 #[.slice (some ⟨b, o, none⟩) len cap, .bool false] w' (.int .i64 (sz : Nat))) := by
        intro w' o len cap ho hlen hcap' e
        subst ho; subst hlen
        have hb2 : Bs w' (some ⟨b, off + (n + nm + 3), none⟩) [l[n + nm + 3], l[n + nm + 4]] cap := by
          refine ⟨⟨by simpa using hcap', by simp, fun _ => ⟨b, off + (n + nm + 3), rfl, Nat.lt_of_lt_of_le hb e.size, fun w2 e2 i hi => ?_⟩⟩, by simp⟩
          have hi2 : i < 2 := by simpa using hi
          rcases (by omega : i = 0 ∨ i = 1) with rfl | rfl
          · simpa using hcs w2 (e.trans e2) (n + nm + 3) (by omega)
          · have := hcs w2 (e.trans e2) (n + nm + 4) (by omega)
            rw [show off + (n + nm + 4) = off + (n + nm + 3) + 1 by omega] at this
            simpa using this
        have := ReadInteger_c _ _ cap w' hb2 (by simp)
        rw [hszv] at this
        exact this
      clear hszv
      by_cases h3 : l.length < n + nm + 6 + sz
      · have HD : Hid (decN l n = none) := by show _ = _; unfold decN; rw [HNM.out, HSZ.out, if_pos (by omega)]
        have H := Lib.hid h; have HCS := Lib.hid hcs; clear h hcs
        go_enter Tryd.func73, Tryd.ntmps73
        go_wp2_with (first
          | (go_at_call 54; refine (l1In_c _ _ _ _).mono ?_; rintro _ w1 ⟨rfl, he1⟩; rw [HI.out]; have he1' := ez.trans he1)
          | (go_at_call 91; refine (CR.out _ _ _ _ (by omega) (by omega) (by omega) he1').mono ?_; rintro _ w2 ⟨rfl, he2⟩; have he12 := he1.trans he2))
        obtain ⟨s0, s1, s2, s3⟩ := stored4 (B _ he12)
        exact bodyPost_ret (v := .tuple #[.agg #[.int .i64 0, .string ⟨#[]⟩, .int .i64 0, .slice none 0 0], .int .i64 n, .bool false]) (by simp [results, Tryd.results73, go_sem, s0, s1, s2, s3]) rfl (KN.out _ he12 HD.out)
      · obtain ⟨p, hp⟩ : ∃ p, (l.drop (n + nm + 5)).take sz = p := ⟨_, rfl⟩
        have hpl : p.length = sz := by rw [← hp]; simp; omega
        have rp : ∀ w' o len cap, o = off + (n + nm + 5) → len = p.length → p.length ≤ cap → Ext w w' → Bs w' (some ⟨b, o, none⟩) p cap ∧ len = p.length := by
          intro w' o len cap ho hlen hcap' e
          subst ho
          refine ⟨⟨⟨hcap', by omega, fun _ => ⟨b, off + (n + nm + 5), rfl, Nat.lt_of_lt_of_le hb e.size, fun w2 e2 i hi => ?_⟩⟩, by omega⟩, hlen⟩
          have h5 := hcs w2 (e.trans e2) (n + nm + 5 + i) (by omega)
          rw [← Nat.add_assoc] at h5
          rw [h5]
          simp only [← hp, List.getElem_take, List.getElem_drop]
        subst hpl
        have HP := Lib.hid hp; clear hp
        obtain ⟨d, hdd⟩ : ∃ d, (unpack p).getD [] = d := ⟨_, rfl⟩
        obtain ⟨ok, hok⟩ : ∃ ok, (unpack p).isSome = ok := ⟨_, rfl⟩
        have hd1 : d.length ≤ 1000 := by have := unpack_le p; rw [hdd] at this; exact this
        have HDL : Hid (d.length ≤ 140737488351232) := by show _ ≤ _; omega
        have CU : Hid (∀ w' o len cap, o = off + (n + nm + 5) → len = p.length → p.length ≤ cap → Ext w w' →
            Calls Tryd.prog 92 #[.slice (some ⟨b, o, none⟩) len cap] w' fun e w'' => ∃ v, e = .returned (.tuple #[v, .bool ok]) ∧ OwnL vu8 5 w' w'' v d ∧ Ext w' w'') := by
          intro w' o len cap ho hlen hcap' e
          obtain ⟨r1, r2⟩ := rp w' o len cap ho hlen hcap' e
          subst r2
          have := sUnpackBytes_c _ _ _ _ r1
          rw [hdd, hok] at this
          exact this
        clear hok rp
        obtain ⟨x0, hx0⟩ : ∃ x, l[n].toNat = x := ⟨_, rfl⟩
        obtain ⟨x2, hx2⟩ : ∃ x, l[n + nm + 2].toNat = x := ⟨_, rfl⟩
        have hx08 : x0 < 256 := by rw [← hx0]; exact UInt8.toNat_lt _
        have hx28 : x2 < 256 := by rw [← hx2]; exact UInt8.toNat_lt _
        have hc0 : ∀ w', Ext w w' → w'.cell? ⟨b, off + n, none⟩ = some (.int .u8 (x0 : Int)) := by
          intro w' e; have := hcs w' e n (by omega); rw [this, vu8, hx0]
        have hc2 : ∀ w', Ext w w' → w'.cell? ⟨b, off + (n + 2 + nm), none⟩ = some (.int .u8 (x2 : Int)) := by
          intro w' e; have := hcs w' e (n+nm+2) (by omega); rw [show off + (n + nm + 2) = off + (n + 2 + nm) by omega] at this; rw [this, vu8, hx2]
        obtain ⟨NM, hNM⟩ : ∃ NM : ByteArray, ⟨((l.drop (n + 2)).take nm).toArray⟩ = NM := ⟨_, rfl⟩
        have hcv : ∀ w' len cap, len = nm → Ext w w' → (convert 44 9 (.slice (some ⟨b, off + (n + 2), none⟩) len cap)).run Tryd.prog w' = .ok (.string NM) w' := by
          intro w' len cap hlen e
          subst hlen
          have := run_str (hcs w' e) (n + 2) len cap (by omega)
          rwa [hNM] at this
        have HREC : Hid (recAt l n d = ⟨x0, NM, x2, d⟩) := by
          show _ = _; unfold recAt; rw [HNM.out, getD_of_lt (by omega), getD_of_lt (by omega), hx0, hx2, hNM]
        have hNMs : NM.size ≤ 9223372036854775807 := by
          have : NM.size = nm := by rw [← hNM]; show ((l.drop (n+2)).take nm).toArray.size = _; simp; omega
          omega
        clear hx0 hx2 hNM
        obtain ⟨V, hV⟩ : ∃ V, validRec x0 NM x2 d.length = V := ⟨_, rfl⟩
        obtain ⟨E, hE⟩ : ∃ E, encRec x0 NM x2 d = E := ⟨_, rfl⟩
        obtain ⟨q, hq⟩ : ∃ q, (l.drop n).take (nm + 6 + p.length) = q := ⟨_, rfl⟩
        have hVE : V = false → E.length = 0 := by intro hf; rw [← hE, encRec_no (by rw [hV]; exact hf)]; rfl
        have hVE2 : V = true → E.length ≠ 0 := by intro hf; rw [← hE, encRec_length (by rw [hV]; exact hf)]; omega
        have HDEC : Hid (decN l n = if V && (E == q) then some ⟨x0, NM, x2, d⟩ else none) := by
          show _ = _
          rw [decN_spec (by rw [HNM.out, HSZ.out]; omega), HNM.out, HSZ.out, HP.out, hdd, HREC.out]
          have e1 : (⟨x0, NM, x2, d⟩ : DRec).ok = V := hV
          have e2 : (⟨x0, NM, x2, d⟩ : DRec).enc = E := hE
          rw [e1, e2, hq]
        clear hdd
        have hEl := encRec_le x0 NM x2 d
        rw [hE] at hEl
        have HEL : Hid (E.length ≤ 140737488351232) := by show _ ≤ _; omega
        have CN := Lib.hid (fun A4 c4 w h => sEncodeRecord_c x0 NM x2 A4 d c4 w h hNMs)
        rw [hE] at CN
        have CE : Hid (∀ A' c' w' len, len = nm + 6 + p.length → Bs w' A' E c' → Ext w w' → Gives Tryd.prog 94 #[.slice A' E.length c', .slice (some ⟨b, off + n, none⟩) len (c - n)] w' (.bool (E == q))) := by
          intro A' c' w' len hlen h e
          have hql : q.length = nm + 6 + p.length := by rw [← hq]; simp; omega
          have rq : Bs w' (some ⟨b, off + n, none⟩) q (c - n) := by
            refine ⟨⟨by omega, by omega, fun _ => ⟨b, off + n, rfl, Nat.lt_of_lt_of_le hb e.size, fun w2 e2 i hi => ?_⟩⟩, by omega⟩
            have h5 := hcs w2 (e.trans e2) (n + i) (by omega)
            rw [← Nat.add_assoc] at h5
            rw [h5]
            simp only [← hq, List.getElem_take, List.getElem_drop]
          have := sEqualBytes_c A' (some ⟨b, off + n, none⟩) E q c' (c - n) w' h rq
          rw [hql, ← hlen] at this
          exact this
        have H := Lib.hid h; have HCS := Lib.hid hcs; clear h hcs hV hE hq
        have HH := Lib.hid hVE; have HH2 := Lib.hid hVE2; clear hVE hVE2
        generalize (E == q) = r at *
        go_enter Tryd.func73, Tryd.ntmps73
        go_wp2_with (first
          | (go_at_call 54; refine (l1In_c _ _ _ _).mono ?_; rintro _ w1 ⟨rfl, he1⟩; rw [HI.out]; have he1' := ez.trans he1)
          | (go_at_call 91; refine (CR.out _ _ _ _ (by omega) (by omega) (by omega) he1').mono ?_; rintro _ w2 ⟨rfl, he2⟩; have he12 := he1.trans he2; have he12' := ez.trans he12)
          | (go_at_call 92; refine (CU.out _ _ _ _ (by omega) (by omega) (by omega) he12').mono ?_; rintro _ w4 ⟨v4, rfl, ho4, he4⟩; have he34 := he12.trans he4; have he34' := ez.trans he34; obtain ⟨A4, c4, hv4, hr4⟩ := OwnL.rd ho4 HDL.out; subst hv4))
        have hcv' := fun w' len cap hlen (e : Ext w4 w') => hcv w' len cap hlen (he34'.trans e)
        have hc0' := fun w' (e : Ext w4 w') => hc0 w' (he34'.trans e)
        have hc2' := fun w' (e : Ext w4 w') => hc2 w' (he34'.trans e)
        clear hcv hc0 hc2 hc1
        have g1 : (n : Int) < (l.length : Int) := by omega
        have g1' : n < l.length := by omega
        have g3 : (0 : Int) ≤ (n : Int) + 2 := by omega
        have g4 : ((n : Int) + 2).toNat = n + 2 := by omega
        have g5 : (n : Int) + 2 ≤ (n : Int) + 2 + (nm : Int) := by omega
        have g6 : (n : Int) + 2 + (nm : Int) ≤ (c : Int) := by omega
        have g6' : n + 2 + nm ≤ c := by omega
        have g6'' : ¬ c = n + 2 := by omega
        have g8 : (n : Int) + 2 + (nm : Int) < (l.length : Int) := by omega
        have g8' : n + 2 + nm < l.length := by omega
        have g9 : ((n : Int) + 2 + (nm : Int)).toNat = n + 2 + nm := by omega
        have g9' : (0 : Int) ≤ (n : Int) + 2 + (nm : Int) := by omega
        have g10 : IntKind.i64.wrap (x0 : Int) = (x0 : Int) := IntWalk.i64_in _ (by omega)
        have g11 : IntKind.i64.wrap (x2 : Int) = (x2 : Int) := IntWalk.i64_in _ (by omega)
        go_region_held3 (fun w' => Ext w4 w') (first | assumption | exact Ext_drew (Ext.refl _) | exact Ext_drew (Ext_alloc _ (Ext.refl _)) | exact Ext_alloc _ (Ext_drew (Ext.refl _)) | exact Ext.trans (by assumption) (by assumption)) (first | fail)
        have ebx := Ext_alloc (.cells #[.int .i64 x0, .string NM, .int .i64 x2, .slice A4 d.length c4] 49) (Ext.refl w4)
        generalize hw5 : (w4.alloc (.cells #[.int .i64 x0, .string NM, .int .i64 x2, .slice A4 d.length c4] 49)).drew = w5
        have e5 : Ext (w4.alloc (.cells #[.int .i64 x0, .string NM, .int .i64 x2, .slice A4 d.length c4] 49)) w5 := by rw [← hw5]; exact Ext_drew (Ext.refl _)
        clear hw5
        have D := fun w' (e : Ext w5 w') => boxed (e5.trans e)
        have e45 := ebx.trans e5
        have r5 := hr4.ext e45
        have o5 := OwnL.ext ho4 e45
        have z5 := he34.trans e45
        have hs3 : w.heap.size < w2.heap.size := by have := he12.size; simp at this; omega
        have HEE : Hid (Ext w w2) := he12'
        have EW : Hid (Ext w w5) := ez.trans z5
        have B5 := fun w' (e : Ext w5 w') => B w' (z5.trans e)
        have F5 := fun w' (e : Ext w5 w') => F w' (z5.trans e)
        have KN5 := Lib.hid (fun w6 (e : Ext w5 w6) => KN.out w6 (z5.trans e))
        clear hcv' hc0' hc2' ho4 hr4 B F KN he1 he2
        unfold vrec at CN
        cases V
        · have HD2 : Hid (decN l n = none) := HDEC.out
          have HE0 : E.length = 0 := HH.out rfl
          have HE0' := Lib.hid HE0; clear HE0 HDEC HH HH2
          go_wp2_with (first
            | (go_at_call 93; refine (CN.out _ _ _ (r5.ext (by first | exact Ext.refl _ | assumption))).mono ?_; rintro _ w7 ⟨v7, rfl, ho7, he7⟩; obtain ⟨A7, c7, hv7, r7⟩ := OwnL.rd ho7 HEL.out; rw [HE0'.out] at hv7; subst hv7))
          obtain ⟨s0, s1, s2, s3⟩ := stored4 (B5 _ he7)
          exact bodyPost_ret (v := .tuple #[.agg #[.int .i64 0, .string ⟨#[]⟩, .int .i64 0, .slice none 0 0], .int .i64 n, .bool false]) (by simp [results, Tryd.results73, go_sem, s0, s1, s2, s3]) rfl (KN5.out _ he7 HD2.out)
        · have HE0 : ((E.length : Int) == 0) = false := beq_eq_false_iff_ne.2 (by have := HH2.out rfl; omega)
          have HE0b : ¬ E.length = 0 := HH2.out rfl
          clear HH HH2
          cases r
          · have HD2 : Hid (decN l n = none) := HDEC.out
            clear HDEC
            go_wp2_with (first
              | (go_at_call 93; refine (CN.out _ _ _ (r5.ext (by first | exact Ext.refl _ | assumption))).mono ?_; rintro _ w7 ⟨v7, rfl, ho7, he7⟩; obtain ⟨A7, c7, hv7, r7⟩ := OwnL.rd ho7 HEL.out; subst hv7)
              | (go_at_call 94; refine (CE.out _ _ _ _ (by omega) r7 (EW.out.trans he7)).mono ?_; rintro _ w8 ⟨rfl, he8⟩; have e8 := he7.trans he8))
            obtain ⟨s0, s1, s2, s3⟩ := stored4 (B5 _ e8)
            exact bodyPost_ret (v := .tuple #[.agg #[.int .i64 0, .string ⟨#[]⟩, .int .i64 0, .slice none 0 0], .int .i64 n, .bool false]) (by simp [results, Tryd.results73, go_sem, s0, s1, s2, s3]) rfl (KN5.out _ e8 HD2.out)
          · have HD2 : Hid (decN l n = some ⟨x0, NM, x2, d⟩) := HDEC.out
            clear HDEC
            go_wp2_with (first
              | (go_at_call 93; refine (CN.out _ _ _ (r5.ext (by first | exact Ext.refl _ | assumption))).mono ?_; rintro _ w7 ⟨v7, rfl, ho7, he7⟩; obtain ⟨A7, c7, hv7, r7⟩ := OwnL.rd ho7 HEL.out; subst hv7)
              | (go_at_call 94; refine (CE.out _ _ _ _ (by omega) r7 (EW.out.trans he7)).mono ?_; rintro _ w8 ⟨rfl, he8⟩; have e8 := he7.trans he8))
            obtain ⟨s0, s1, s2, s3⟩ := stored4 (B5 _ e8)
            refine bodyPost_ret (v := .tuple #[.agg #[.int .i64 x0, .string NM, .int .i64 x2, .slice A4 d.length c4], .int .i64 ((n : Int) + 2 + (nm : Int) + 3 + (p.length : Int) + 1), .bool true]) (by simp [results, Tryd.results73, go_sem, s0, s1, s2, s3]) rfl ?_
            obtain ⟨q1, q2⟩ := dec_yes HD2.out
            rw [q1, q2, HNM.out, HSZ.out]
            refine ⟨.slice A4 d.length c4, ?_, ?_, ?_⟩
            · rw [show ((n + nm + 6 + p.length : Nat) : Int) = (n : Int) + 2 + (nm : Int) + 3 + (p.length : Int) + 1 by omega]
              rfl
            · exact OwnL.lower (ownsRow_setCell_below (ownsRow_setCell_below (ownsRow_setCell_below (ownsRow_setCell_below (OwnL.ext o5 e8) hs3 _) hs3 _) hs3 _) hs3 _) HEE.out
            · exact ((((EW.out.trans e8).setCell (Nat.le_refl _) _).setCell (Nat.le_refl _) _).setCell (Nat.le_refl _) _).setCell (Nat.le_refl _) _
end Go.Proofs.YtdbbdoldndnbhaaDoor

/- Plain laws of reading records one behind the other: no program in sight. -/
namespace Go.Proofs.YtdbbdoldndnbhaaDoor

/-- the length of the encoding that begins at an index -/
def sizeAt (b : List UInt8) (a : Nat) : Nat := nmAt b a + 6 + szAt b a
def readF : Nat → List UInt8 → Nat → List DRec × Nat
  | 0, _, a => ([], a)
  | f + 1, b, a => match decN b a with
    | none => ([], a)
    | some r => (r :: (readF f b (a + sizeAt b a)).1, (readF f b (a + sizeAt b a)).2)
theorem decN_out {b : List UInt8} {a : Nat} (h : b.length < a + 6) : decN b a = none := by
  cases hd : decN b a with
  | none => rfl
  | some r => have := (decN_some hd).1; omega
theorem decN_fits {b : List UInt8} {a : Nat} {r : DRec} (h : decN b a = some r) : a + sizeAt b a ≤ b.length ∧ 6 ≤ sizeAt b a := by
  have := (decN_some h).1; unfold sizeAt; omega
theorem readF_fuel (b : List UInt8) : ∀ f g a, b.length - a ≤ f → b.length - a ≤ g → readF f b a = readF g b a := by
  intro f
  induction f with
  | zero =>
    intro g a h _
    cases g with
    | zero => rfl
    | succ g => rw [readF, readF, decN_out (by omega)]
  | succ f ih =>
    intro g a h1 h2
    cases g with
    | zero => rw [readF, readF, decN_out (by omega)]
    | succ g =>
      rw [readF, readF]
      cases hd : decN b a with
      | none => rfl
      | some r =>
        have := decN_fits hd
        simp only
        rw [ih g (a + sizeAt b a) (by omega) (by omega)]
/-- the records from an index on; where the reading stops -/
def recs (b : List UInt8) (a : Nat) : List DRec := (readF b.length b a).1
def stop (b : List UInt8) (a : Nat) : Nat := (readF b.length b a).2
theorem read_none {b : List UInt8} {a : Nat} (h : decN b a = none) : recs b a = [] ∧ stop b a = a := by
  unfold recs stop
  cases b.length with
  | zero => exact ⟨rfl, rfl⟩
  | succ n => rw [readF, h]; exact ⟨rfl, rfl⟩
theorem read_some {b : List UInt8} {a : Nat} {r : DRec} (h : decN b a = some r) : recs b a = r :: recs b (a + sizeAt b a) ∧ stop b a = stop b (a + sizeAt b a) := by
  have hf := decN_fits h
  unfold recs stop
  rw [readF_fuel b b.length (b.length + 1) a (by omega) (by omega), readF, h]
  exact ⟨rfl, rfl⟩
theorem readF_le (b : List UInt8) : ∀ f a, a ≤ b.length → (readF f b a).2 ≤ b.length ∧ a ≤ (readF f b a).2 ∧ 6 * (readF f b a).1.length + a ≤ (readF f b a).2 := by
  intro f
  induction f with
  | zero => intro a h; exact ⟨h, Nat.le_refl _, by simp [readF]⟩
  | succ f ih =>
    intro a h
    rw [readF]
    cases hd : decN b a with
    | none => exact ⟨h, Nat.le_refl _, by simp⟩
    | some r =>
      have hf := decN_fits hd
      have := ih (a + sizeAt b a) (by omega)
      simp only [List.length_cons]
      omega
theorem stop_le {b : List UInt8} {a : Nat} (h : a ≤ b.length) : stop b a ≤ b.length ∧ a ≤ stop b a := ⟨(readF_le b _ a h).1, (readF_le b _ a h).2.1⟩
theorem recs_le {b : List UInt8} {a : Nat} (h : a ≤ b.length) : 6 * (recs b a).length + a ≤ b.length := by
  have := readF_le b b.length a h; unfold recs; omega

theorem take_drop_take {α : Type} (b : List α) {s k m : Nat} (h : k + m ≤ s) : ((b.take s).drop k).take m = (b.drop k).take m := by
  rw [List.drop_take, List.take_take, Nat.min_eq_left (by omega)]
theorem getD_take {b : List UInt8} {s i : Nat} (h : i < s) : (b.take s).getD i 0 = b.getD i 0 := by
  simp [List.getD, List.getElem?_take, h]
theorem nmAt_take {b : List UInt8} {s a : Nat} (h : a + 1 < s) : nmAt (b.take s) a = nmAt b a := by unfold nmAt; rw [getD_take h]
theorem szAt_take {b : List UInt8} {s a : Nat} (h : a + nmAt b a + 4 < s) : szAt (b.take s) a = szAt b a := by
  unfold szAt; rw [nmAt_take (by omega), getD_take (by omega), getD_take (by omega)]
theorem decN_take_eq {b : List UInt8} {s a : Nat} (hs : s ≤ b.length) (h : a + sizeAt b a ≤ s) : decN (b.take s) a = decN b a := by
  unfold sizeAt at h
  have hl : (b.take s).length = s := by rw [List.length_take]; omega
  have e1 : nmAt (b.take s) a = nmAt b a := nmAt_take (by omega)
  have e2 : szAt (b.take s) a = szAt b a := szAt_take (by omega)
  have e3 : ∀ d, recAt (b.take s) a d = recAt b a d := by
    intro d; unfold recAt
    rw [e1, getD_take (by omega), getD_take (by omega), take_drop_take b (by omega)]
  unfold decN
  rw [e1, e2, hl, if_neg (by omega), if_neg (by omega), take_drop_take b (by omega), take_drop_take b (by omega)]
  simp only [e3]
theorem decN_take_some {b : List UInt8} {s a : Nat} {r : DRec} (hs : s ≤ b.length) (h : decN (b.take s) a = some r) : decN b a = some r ∧ a + sizeAt b a ≤ s := by
  have hf := (decN_some h).1
  have hl : (b.take s).length = s := by rw [List.length_take]; omega
  rw [hl] at hf
  have e1 : nmAt (b.take s) a = nmAt b a := nmAt_take (by omega)
  rw [e1] at hf
  have e2 : szAt (b.take s) a = szAt b a := szAt_take (by omega)
  rw [e2] at hf
  have hz : a + sizeAt b a ≤ s := by unfold sizeAt; omega
  exact ⟨(decN_take_eq hs hz).symm.trans h, hz⟩
theorem decN_take_none {b : List UInt8} {s a : Nat} (hs : s ≤ b.length) (h : decN b a = none ∨ s < a + sizeAt b a) : decN (b.take s) a = none := by
  cases hd : decN (b.take s) a with
  | none => rfl
  | some r =>
    obtain ⟨h1, h2⟩ := decN_take_some hs hd
    rcases h with h | h
    · rw [h] at h1; cases h1
    · omega

/-- a log is valid -/
def validLog (b : List UInt8) (s : Int) : Bool := decide (0 ≤ s) && decide (s ≤ b.length) && (stop b 0 == b.length) && (stop (b.take s.toNat) 0 == s.toNat)
/-- the bytes that are stored end with a record -/
def endsAt (b : List UInt8) (s : Nat) : Bool := stop (b.take s) 0 == s
/-- what the scan of a log knows at an index -/
def Scan (b : List UInt8) (s a : Nat) (e : Bool) : Prop :=
  (e = true ∧ endsAt b s = true) ∨ (e = false ∧ a < s ∧ stop (b.take s) a = stop (b.take s) 0) ∨ (e = false ∧ s < a ∧ endsAt b s = false)
theorem Scan.start (b : List UInt8) (s : Nat) : Scan b s 0 (s == 0) := by
  by_cases h : s = 0
  · subst h
    refine .inl ⟨rfl, ?_⟩
    unfold endsAt
    rw [List.take_zero, (read_none (decN_out (by simp))).2]; rfl
  · exact .inr (.inl ⟨by simpa using h, by omega, rfl⟩)
theorem Scan.step {b : List UInt8} {s a : Nat} {e : Bool} {r : DRec} (hs : s ≤ b.length) (hd : decN b a = some r) (h : Scan b s a e) : Scan b s (a + sizeAt b a) (e || (a + sizeAt b a == s)) := by
  have hf := decN_fits hd
  rcases h with ⟨rfl, h⟩ | ⟨rfl, h1, h2⟩ | ⟨rfl, h1, h2⟩
  · exact .inl ⟨rfl, h⟩
  · by_cases hle : a + sizeAt b a ≤ s
    · have hd' := (decN_take_eq hs hle).trans hd
      have hz : sizeAt (b.take s) a = sizeAt b a := by
        unfold sizeAt at hle ⊢
        rw [nmAt_take (by omega), szAt_take (by omega)]
      have h3 := (read_some hd').2
      rw [hz] at h3
      by_cases he : a + sizeAt b a = s
      · rw [he]
        refine .inl ⟨by simp, ?_⟩
        unfold endsAt
        rw [← h2, h3, he, (read_none (decN_out (by rw [List.length_take]; omega))).2]
        simp
      · exact .inr (.inl ⟨by simpa using he, by omega, by rw [← h3]; exact h2⟩)
    · refine .inr (.inr ⟨by simp; omega, by omega, ?_⟩)
      unfold endsAt
      rw [← h2, (read_none (decN_take_none hs (.inr (by omega)))).2]
      simp; omega
  · exact .inr (.inr ⟨by simp; omega, by omega, h2⟩)
theorem Scan.done {b : List UInt8} {s : Nat} {e : Bool} (hs : s ≤ b.length) (h : Scan b s b.length e) : e = endsAt b s := by
  rcases h with ⟨rfl, h⟩ | ⟨rfl, h1, _⟩ | ⟨rfl, _, h⟩
  · exact h.symm
  · omega
  · exact h.symm
theorem validLog_eq {b : List UInt8} {s : Nat} (hs : s ≤ b.length) : validLog b (s : Int) = ((stop b 0 == b.length) && endsAt b s) := by
  unfold validLog endsAt
  rw [Int.toNat_natCast]
  have h1 : decide ((0 : Int) ≤ (s : Int)) = true := by simp
  have h2 : decide ((s : Int) ≤ (b.length : Int)) = true := by simp; omega
  rw [h1, h2]; simp
theorem validLog_out {b : List UInt8} {s : Int} (h : s < 0 ∨ (b.length : Int) < s) : validLog b s = false := by
  unfold validLog
  rcases h with h | h
  · have h1 : decide ((0 : Int) ≤ s) = false := by simp; omega
    rw [h1]; rfl
  · have h1 : decide (s ≤ (b.length : Int)) = false := by simp; omega
    rw [h1]; simp
theorem validLog_facts {b : List UInt8} {s : Int} (h : validLog b s = true) : 0 ≤ s ∧ s ≤ b.length ∧ stop b 0 = b.length ∧ stop (b.take s.toNat) 0 = s.toNat := by
  unfold validLog at h
  simp only [Bool.and_eq_true, decide_eq_true_eq, beq_iff_eq] at h
  exact ⟨h.1.1.1, h.1.1.2, h.1.2, h.2⟩
end Go.Proofs.YtdbbdoldndnbhaaDoor

/- The laws' marks on records and logs by value. -/
namespace Go.Proofs.YtdbbdoldndnbhaaDoor
open Go.RowKit Go.Sort

theorem Own.alloc' {e : TypeId} {size : Nat} {w0 w : World} {v : Value} {n : Nat} {xs : List Value} (h : Own e size w0 w v n xs) (o : Obj) : Own e size w0 (w.alloc o) v n xs := World.ownsRow.alloc h o


end Go.Proofs.YtdbbdoldndnbhaaDoor

/- The walk of the law on DecodeRecord. -/
namespace Go.Proofs.YtdbbdoldndnbhaaDoor
open Go.RowKit Go.Sort

theorem heap_lt {w : World} {g : Nat} {o : Obj} (h : w.heap[g]? = some o) : g < w.heap.size := (Array.getElem?_eq_some_iff.1 h).1
theorem heap_ext {w w' : World} {g : Nat} {o : Obj} (h : w.heap[g]? = some o) (e : Ext w w') : w'.heap[g]? = some o := (Below.block e g (heap_lt h)).trans h
theorem heap_grown {w w' : World} {g : Nat} {o : Obj} {row : Option Nat} (h : w.heap[g]? = some o) (hg : w.grownBy w' row) (hne : some g ≠ row) : w'.heap[g]? = some o := (hg.block g (heap_lt h) hne).trans h
theorem heap_new (w : World) (o : Obj) : (w.alloc o).heap[w.heap.size]? = some o := heap_alloc_new w o
theorem boxed_at {w w' : World} {g : Nat} {cs : Array Value} {T : TypeId} (h : w.heap[g]? = some (.cells cs T (0, 0))) (e : Ext w w') (i : Nat) : w'.cell? ⟨g, i, none⟩ = cs[i]? := cell_of_row w' g i cs T (0, 0) (heap_ext h e)
theorem OwnL.ne {α : Type} {f : α → Value} {e : TypeId} {w0 w : World} {v : Value} {l : List α} (h : OwnL f e w0 w v l) {g : Nat} (hg : w.heap.size ≤ g) : some g ≠ v.ownBlock := by
  intro he; have := (World.ownsRow.lt h g he.symm).2; omega

theorem dec_len (b : List UInt8) (a : Int) : ((dec b a).getD .zero).l.length ≤ 400 := by
  unfold dec
  split
  · simp [DRec.zero]
  · cases hd : decN b a.toNat with
    | none => simp [DRec.zero]
    | some r => have := validRec_facts (decN_some hd).2.1; simp only [Option.getD_some]; omega

end Go.Proofs.YtdbbdoldndnbhaaDoor

/- ReadRecords and CountRecords of the program and of the reference. -/
namespace Go.Proofs.YtdbbdoldndnbhaaDoor
open Go.RowKit Go.Sort

/-- the cells of records, each with its data's slice -/
def rcells (p : DRec × Value) : List Value := [.int .i64 p.1.k, .string p.1.nm, .int .i64 p.1.ver, p.2]
theorem rcells_len (ps : List (DRec × Value)) : (ps.flatMap rcells).length = ps.length * 4 := by
  induction ps with
  | nil => rfl
  | cons p t ih => rw [List.flatMap_cons, List.length_append, ih, List.length_cons]; simp [rcells]; omega
/-- no two of the values lie in one block -/
def Apart (vs : List Value) : Prop := vs.Pairwise fun a b => ∀ g, a.ownBlock = some g → b.ownBlock ≠ some g
/-- records that the call since w0 made, each with data of its own -/
def OwnR (w0 w : World) (v : Value) (ps : List (DRec × Value)) : Prop :=
  Own 49 4 w0 w v ps.length (ps.flatMap rcells) ∧ (∀ p ∈ ps, OwnL vu8 5 w0 w p.2 p.1.l) ∧ Apart (v :: ps.map Prod.snd)
theorem OwnR.ext {w0 w w' : World} {v : Value} {ps : List (DRec × Value)} (h : OwnR w0 w v ps) (e : Ext w w') : OwnR w0 w' v ps :=
  ⟨Own.ext h.1 e, fun p hp => OwnL.ext (h.2.1 p hp) e, h.2.2⟩
theorem OwnR.lower {w0 w1 w : World} {v : Value} {ps : List (DRec × Value)} (h : OwnR w1 w v ps) (e : Ext w0 w1) : OwnR w0 w v ps :=
  ⟨World.ownsRow.lower h.1 e.size, fun p hp => OwnL.lower (h.2.1 p hp) e, h.2.2⟩
theorem OwnR.shape {w0 w : World} {v : Value} {ps : List (DRec × Value)} (h : OwnR w0 w v ps) : ∃ A c, v = .slice A ps.length c := by
  rcases h.1.2 with ⟨rfl, hn⟩ | ⟨g, cap, _, rfl, _⟩
  · exact ⟨none, 0, by rw [hn]⟩
  · exact ⟨_, _, rfl⟩
/-- a row behind an append: the same block, or the newest -/
theorem OwnR.push {w0 w1 w2 : World} {v v' : Value} {ps : List (DRec × Value)} {p : DRec × Value} (h : OwnR w0 w1 v ps) (hp : OwnL vu8 5 w0 w1 p.2 p.1.l)
    (hnew : ∀ q ∈ ps, ∀ g, q.2.ownBlock = some g → p.2.ownBlock ≠ some g) (hv : ∀ g, v.ownBlock = some g → p.2.ownBlock ≠ some g)
    (ho : Own 49 4 w0 w2 v' (ps.length + 1) (ps.flatMap rcells ++ rcells p)) (hb : v'.ownBlock = v.ownBlock ∨ v'.ownBlock = some w1.heap.size) (hg : w1.grownBy w2 v.ownBlock) : OwnR w0 w2 v' (ps ++ [p]) := by
  have hap := h.2.2
  unfold Apart at hap
  rw [List.pairwise_cons] at hap
  refine ⟨by simpa [List.flatMap_append, List.flatMap_cons] using ho, ?_, ?_⟩
  · intro q hq
    have hlast : ∀ q : DRec × Value, OwnL vu8 5 w0 w1 q.2 q.1.l → (∀ g, v.ownBlock = some g → q.2.ownBlock ≠ some g) → OwnL vu8 5 w0 w2 q.2 q.1.l := by
      intro q hq hne
      refine World.ownsRow.kept hq hg ?_
      cases hb' : q.2.ownBlock with
      | none => exact .inl rfl
      | some g => right; intro hvv; exact hne g hvv.symm hb'
    rcases List.mem_append.1 hq with hq | hq
    · exact hlast q (h.2.1 q hq) (fun g hg => hap.1 q.2 (List.mem_map_of_mem hq) g hg)
    · rw [List.mem_singleton.1 hq]; exact hlast p hp hv
  · have hlt : ∀ q ∈ ps ++ [p], ∀ g, q.2.ownBlock = some g → g < w1.heap.size := by
      intro q hq g hg'
      rcases List.mem_append.1 hq with hq | hq
      · exact OwnL.block (h.2.1 q hq) g hg'
      · rw [List.mem_singleton.1 hq] at hg'; exact OwnL.block hp g hg'
    have hne : ∀ q ∈ ps ++ [p], ∀ g, v.ownBlock = some g → q.2.ownBlock ≠ some g := by
      intro q hq g hg'
      rcases List.mem_append.1 hq with hq | hq
      · exact hap.1 q.2 (List.mem_map_of_mem hq) g hg'
      · rw [List.mem_singleton.1 hq]; exact hv g hg'
    unfold Apart
    rw [List.pairwise_cons, List.map_append, List.pairwise_append]
    refine ⟨?_, hap.2, by simp, ?_⟩
    · intro u hu g hg' hu'
      rw [← List.map_append] at hu
      obtain ⟨q, hq, rfl⟩ := List.mem_map.1 hu
      rcases hb with hb | hb
      · rw [hb] at hg'; exact hne q hq g hg' hu'
      · rw [hb] at hg'; injection hg' with hg'; subst hg'; exact absurd (hlt q hq _ hu') (Nat.lt_irrefl _)
    · intro u hu u' hu' g hg' hg''
      obtain ⟨q, hq, rfl⟩ := List.mem_map.1 hu
      have : u' = p.2 := by simpa using hu'
      subst this
      exact hnew q hq g hg' hg''

section
variable {P : Program} {ops : Array Oper} {rest : List Oper} {o : Oper} {a : Act} {Q : Exit → Act → World → Prop}
/-- append(s, x1, .., xm), with what becomes of the block -/
theorem wpList_appB (hgd : o.guard = none) (s x : Operand) (t : TypeId) (ho : o.op = .call { callee := .builtin .append, args := #[s, x], argTypes := #[t, t] })
    {e : TypeId} {size bytes : Nat} {z : Value} (hE : Elem P t e size bytes z) (w0 w : World) (v : Value) (n : Nat) (xs : List Value) (hs : a.eval s = v) (hown : Own e size w0 w v n xs)
    (he : Ext w0 w) (news : List Value) (cs : Array Value) (hcs : cs = news.toArray) (m c g : Nat) (hx : a.eval x = .slice (some ⟨g, 0, none⟩) m c) (hgw : g = w.heap.size) (hl : news.length = m * size) (h1 : ∀ u ∈ news, u.oneCell' = true)
    (hm : n + m ≤ maxLen) (hb : (n + m) * bytes ≤ 140737488355328)
    (h : ∀ v' w', Own e size w0 w' v' (n + m) (xs ++ news) → Ext w0 w' → (v'.ownBlock = v.ownBlock ∨ v'.ownBlock = some (w.alloc (.cells cs e)).heap.size) → (w.alloc (.cells cs e)).grownBy w' v.ownBlock → wpList P ops Q rest (a.put o.dst v') w') :
    wpList P ops Q (o :: rest) a (w.alloc (.cells cs e)) := by
  subst hcs; subst hgw
  refine wpList_app_any hgd s x t ho hE w0 _ v n xs hs (World.ownsRow.alloc hown _) (Ext_alloc _ he) news (some ⟨w.heap.size, 0, none⟩) m c hx hl (fun _ => ⟨_, rfl, fun j u hj => ?_⟩) h1 hm hb h
  rw [World.cell?_alloc_at']; exact hj
end


end Go.Proofs.YtdbbdoldndnbhaaDoor

/- Logs: CountRecords, IsValidLog of the reference, copies. -/
namespace Go.Proofs.YtdbbdoldndnbhaaDoor
open Go.RowKit Go.Sort



/-- a block of two cells, written one by one -/
theorem stored2 {w1 : World} {g : Nat} {x0 x1 : Value} (h : ∀ i, w1.cell? ⟨g, i, none⟩ = #[x0, x1][i]?) :
    (∀ y0, (w1.setCell ⟨g, 0, none⟩ y0).cell? ⟨g, 0, none⟩ = some y0) ∧ (∀ y0 y1, ((w1.setCell ⟨g, 0, none⟩ y0).setCell ⟨g, 1, none⟩ y1).cell? ⟨g, 1, none⟩ = some y1) := by
  have h0 := h 0; have h1 := h 1
  simp at h0 h1
  refine ⟨fun y0 => ?_, fun y0 y1 => ?_⟩
  · apply World.cell?_setCell_same; exact h0
  · apply World.cell?_setCell_same (u := x1); simp [World.cell?_setCell_other, h1]


theorem Rd.take {α : Type} {f : α → Value} {w : World} {A : Option Addr} {l : List α} {c : Nat} (h : Rd f w A l c) (n : Nat) : Rd f w A (l.take n) c := by
  have hn : (l.take n).length ≤ l.length := by simp; omega
  refine ⟨⟨by have := h.cap; omega, by have := h.1.2.1; omega, fun hp => ?_⟩, by have := h.len; omega⟩
  obtain ⟨b, off, h1, h2, h3⟩ := h.base (by omega)
  refine ⟨b, off, h1, h2, fun w' e i hi => ?_⟩
  rw [h3 w' e i (by omega)]
  simp
theorem Rd.none {α : Type} {f : α → Value} {l : List α} (hl : l.length = 0) (w : World) (A : Option Addr) (c : Nat) : Rd f w A l c := ⟨⟨by omega, by omega, fun h => by omega⟩, by omega⟩
end Go.Proofs.YtdbbdoldndnbhaaDoor

/- Descriptions as data: rules, how they lie in memory, what they read as. -/
namespace Go.Proofs.YtdbbdoldndnbhaaDoor
open Go.RowKit Go.Sort

/-- a rule -/
structure DRule where
  nm : ByteArray
  kind : Int
  size : Int
  little : Bool
  bytes : List UInt8
  names : List ByteArray
  tags : List Int
  kids : List Int
/-- a rule's value; its four slices -/
def vrule (r : DRule) (vb vn vt vk : Value) : Value := .agg #[.string r.nm, .int .i64 r.kind, .int .i64 r.size, .bool r.little, vb, vn, vt, vk]
def vdesc (v : Value) : Value := .agg #[v]
/-- the four slices of a rule, each reading as its list -/
structure RdS (w : World) (r : DRule) (Ab : Option Addr) (cb : Nat) (An : Option Addr) (cn : Nat) (At : Option Addr) (ct : Nat) (Ak : Option Addr) (ck : Nat) : Prop where
  b : Rd0 vu8 w Ab r.bytes cb
  n : Rd0 vstr w An r.names cn
  t : Rd0 vint w At r.tags ct
  k : Rd0 vint w Ak r.kids ck
theorem RdS.ext {w w' : World} {r : DRule} {Ab : Option Addr} {cb : Nat} {An : Option Addr} {cn : Nat} {At : Option Addr} {ct : Nat} {Ak : Option Addr} {ck : Nat} (h : RdS w r Ab cb An cn At ct Ak ck) (e : Ext w w') : RdS w' r Ab cb An cn At ct Ak ck :=
  ⟨h.b.ext e, h.n.ext e, h.t.ext e, h.k.ext e⟩
/-- a rule's eight cells, in w and in every later world -/
structure RuleAt (w : World) (b o : Nat) (r : DRule) (vb vn vt vk : Value) : Prop where
  c0 : ∀ (w' : World), Ext w w' → w'.cell? ⟨b, o, none⟩ = some (.string r.nm)
  c1 : ∀ (w' : World), Ext w w' → w'.cell? ⟨b, o + 1, none⟩ = some (.int .i64 r.kind)
  c2 : ∀ (w' : World), Ext w w' → w'.cell? ⟨b, o + 2, none⟩ = some (.int .i64 r.size)
  c3 : ∀ (w' : World), Ext w w' → w'.cell? ⟨b, o + 3, none⟩ = some (.bool r.little)
  c4 : ∀ (w' : World), Ext w w' → w'.cell? ⟨b, o + 4, none⟩ = some vb
  c5 : ∀ (w' : World), Ext w w' → w'.cell? ⟨b, o + 5, none⟩ = some vn
  c6 : ∀ (w' : World), Ext w w' → w'.cell? ⟨b, o + 6, none⟩ = some vt
  c7 : ∀ (w' : World), Ext w w' → w'.cell? ⟨b, o + 7, none⟩ = some vk
theorem RuleAt.ext {w w' : World} {b o : Nat} {r : DRule} {vb vn vt vk : Value} (h : RuleAt w b o r vb vn vt vk) (e : Ext w w') : RuleAt w' b o r vb vn vt vk :=
  ⟨fun w1 e1 => h.c0 w1 (e.trans e1), fun w1 e1 => h.c1 w1 (e.trans e1), fun w1 e1 => h.c2 w1 (e.trans e1), fun w1 e1 => h.c3 w1 (e.trans e1), fun w1 e1 => h.c4 w1 (e.trans e1), fun w1 e1 => h.c5 w1 (e.trans e1), fun w1 e1 => h.c6 w1 (e.trans e1), fun w1 e1 => h.c7 w1 (e.trans e1)⟩
/-- a slice of rules that reads as ds -/
structure RdD (w : World) (A : Option Addr) (ds : List DRule) (c : Nat) : Prop where
  cap : ds.length ≤ c
  len : ds.length ≤ 9223372036854775807
  cells : 0 < ds.length → ∃ b off, A = some ⟨b, off, none⟩ ∧ b < w.heap.size ∧ ∀ i (h : i < ds.length), ∃ Ab cb An cn At ct Ak ck, RdS w ds[i] Ab cb An cn At ct Ak ck ∧
    RuleAt w b (off + i * 8) ds[i] (.slice Ab ds[i].bytes.length cb) (.slice An ds[i].names.length cn) (.slice At ds[i].tags.length ct) (.slice Ak ds[i].kids.length ck)
theorem RdD.ext {w w' : World} {A : Option Addr} {ds : List DRule} {c : Nat} (h : RdD w A ds c) (e : Ext w w') : RdD w' A ds c :=
  ⟨h.cap, h.len, fun hp => let ⟨b, off, h1, h2, h3⟩ := h.cells hp; ⟨b, off, h1, Nat.lt_of_lt_of_le h2 e.size, fun i hi => let ⟨Ab, cb, An, cn, At, ct, Ak, ck, h4, h5⟩ := h3 i hi; ⟨Ab, cb, An, cn, At, ct, Ak, ck, h4.ext e, h5.ext e⟩⟩⟩
theorem RdD.at {w : World} {A : Option Addr} {ds : List DRule} {c : Nat} (h : RdD w A ds c) (i : Nat) (hi : i < ds.length) :
    ∃ b off Ab cb An cn At ct Ak ck, A = some ⟨b, off, none⟩ ∧ b < w.heap.size ∧ RdS w ds[i] Ab cb An cn At ct Ak ck ∧
    RuleAt w b (off + i * 8) ds[i] (.slice Ab ds[i].bytes.length cb) (.slice An ds[i].names.length cn) (.slice At ds[i].tags.length ct) (.slice Ak ds[i].kids.length ck) := by
  obtain ⟨b, off, h1, h2, h3⟩ := h.cells (by omega)
  obtain ⟨Ab, cb, An, cn, At, ct, Ak, ck, h4, h5⟩ := h3 i hi
  exact ⟨b, off, Ab, cb, An, cn, At, ct, Ak, ck, h1, h2, h4, h5⟩
theorem RdD.nil (w : World) : RdD w none [] 0 := ⟨by simp, by simp, fun h => by simp at h⟩
/-- a slice of descriptions that reads as ds -/
structure RdG (w : World) (A : Option Addr) (ds : List (List DRule)) (c : Nat) : Prop where
  cap : ds.length ≤ c
  len : ds.length ≤ 9223372036854775807
  cells : 0 < ds.length → ∃ b off, A = some ⟨b, off, none⟩ ∧ b < w.heap.size ∧ ∀ i (h : i < ds.length), ∃ A' c', RdD w A' ds[i] c' ∧ ∀ (w' : World), Ext w w' → w'.cell? ⟨b, off + i, none⟩ = some (.slice A' ds[i].length c')
theorem RdG.ext {w w' : World} {A : Option Addr} {ds : List (List DRule)} {c : Nat} (h : RdG w A ds c) (e : Ext w w') : RdG w' A ds c :=
  ⟨h.cap, h.len, fun hp => let ⟨b, off, h1, h2, h3⟩ := h.cells hp; ⟨b, off, h1, Nat.lt_of_lt_of_le h2 e.size, fun i hi => let ⟨A', c', h4, h5⟩ := h3 i hi; ⟨A', c', h4.ext e, fun w1 e1 => h5 w1 (e.trans e1)⟩⟩⟩
theorem RdG.at {w : World} {A : Option Addr} {ds : List (List DRule)} {c : Nat} (h : RdG w A ds c) (i : Nat) (hi : i < ds.length) :
    ∃ b off A' c', A = some ⟨b, off, none⟩ ∧ b < w.heap.size ∧ RdD w A' ds[i] c' ∧ ∀ (w' : World), Ext w w' → w'.cell? ⟨b, off + i, none⟩ = some (.slice A' ds[i].length c') := by
  obtain ⟨b, off, h1, h2, h3⟩ := h.cells (by omega)
  obtain ⟨A', c', h4, h5⟩ := h3 i hi
  exact ⟨b, off, A', c', h1, h2, h4, h5⟩

/-- what a size counts -/
def szStrs (l : List ByteArray) : Nat := (l.map ByteArray.size).sum
def szRl (r : DRule) : Nat := r.nm.size + r.bytes.length + (r.names.length + szStrs r.names) + r.tags.length + r.kids.length
def szD (ds : List DRule) : Nat := ds.length + (ds.map szRl).sum
def szG (ds : List (List DRule)) : Nat := ds.length + (ds.map szD).sum
/-- what the machine bears of a rule that came in -/
structure WfR (r : DRule) : Prop where
  nm : r.nm.size ≤ 9223372036854775807
  names : ∀ s ∈ r.names, s.size ≤ 9223372036854775807
  kind : (Lit.int .i64 r.kind).wf = true
  size : (Lit.int .i64 r.size).wf = true
  tags : ∀ x ∈ r.tags, (Lit.int .i64 x).wf = true
  kids : ∀ x ∈ r.kids, (Lit.int .i64 x).wf = true
def WfD (ds : List DRule) : Prop := ∀ r ∈ ds, WfR r
def WfG (ds : List (List DRule)) : Prop := ∀ d ∈ ds, WfD d
theorem szN_neg {a b : Nat} {left : Int} (h : szN a left < 0) : szN (a + b) left = -1 := by
  unfold szN at *; split at h
  · rw [if_pos (by omega)]
  · rename_i h'; omega
theorem szN_add {a b : Nat} {left : Int} (h : ¬ szN a left < 0) : szN (a + b) left = szN b (szN a left) := by
  unfold szN at *; split at h
  · omega
  · rename_i h'
    rw [if_neg h']
    by_cases h2 : left - a - b < 0
    · rw [if_pos h2, if_pos (by omega)]
    · rw [if_neg h2, if_neg (by omega)]; omega
theorem szN_zero {left : Int} (h : 0 ≤ left) : szN 0 left = left := by unfold szN; rw [if_neg (by omega)]; omega
theorem szN_ge {n : Nat} {left : Int} (h : ¬ szN n left < 0) : (n : Int) ≤ left ∧ szN n left = left - n := by
  unfold szN at *; split at h
  · omega
  · rename_i h'; rw [if_neg h']; omega
theorem sum_take {α : Type} (f : α → Nat) (l : List α) (k : Nat) (hk : k < l.length) : ((l.take (k+1)).map f).sum = ((l.take k).map f).sum + f l[k] := by
  rw [List.take_succ_eq_append_getElem hk, List.map_append, List.sum_append, List.map_cons, List.map_nil, List.sum_cons, List.sum_nil, Nat.add_zero]
theorem sum_split {α : Type} (f : α → Nat) (l : List α) (k : Nat) : (l.map f).sum = ((l.take k).map f).sum + ((l.drop k).map f).sum := by
  rw [← List.sum_append, ← List.map_append, List.take_append_drop]
theorem szStrs_take (l : List ByteArray) (k : Nat) (hk : k < l.length) : szStrs (l.take (k+1)) = szStrs (l.take k) + l[k].size := sum_take _ l k hk
theorem szStrs_split (l : List ByteArray) (k : Nat) : szStrs l = szStrs (l.take k) + szStrs (l.drop k) := sum_split _ l k
theorem szStrs_le (l : List ByteArray) (k : Nat) : szStrs (l.take k) ≤ szStrs l := by rw [szStrs_split l k]; omega
end Go.Proofs.YtdbbdoldndnbhaaDoor

/- Valid descriptions, as plain functions of the rules. -/
namespace Go.Proofs.YtdbbdoldndnbhaaDoor

/-- f holds at every number below n -/
def allN (n : Nat) (f : Nat → Bool) : Bool := (List.range n).all f
theorem allN_no {n k : Nat} {f : Nat → Bool} (hk : k < n) (h : f k = false) : allN n f = false := by
  unfold allN
  rw [Bool.eq_false_iff]
  intro hall
  have := List.all_eq_true.1 hall k (by simpa using hk)
  rw [h] at this; cases this
theorem allN_yes {n : Nat} {f : Nat → Bool} (h : ∀ j, j < n → f j = true) : allN n f = true := List.all_eq_true.2 fun j hj => h j (by simpa using hj)
theorem upTo {k : Nat} {f : Nat → Bool} (h : ∀ j, j < k → f j = true) (hk : f k = true) : ∀ j, j < k + 1 → f j = true := by
  intro j hj
  rcases (by omega : j < k ∨ j = k) with hj | rfl
  · exact h j hj
  · exact hk
/-- is the text among the first k of the list -/
def hasNm (l : List ByteArray) (s : ByteArray) : Bool := l.any fun x => x.toList == s.toList
theorem hasNm_at {l : List ByteArray} {s : ByteArray} {k : Nat} (hk : k < l.length) (h : (l[k].toList == s.toList) = true) : hasNm l s = true := List.any_eq_true.2 ⟨l[k], List.getElem_mem hk, h⟩
theorem hasNm_none {l : List ByteArray} {s : ByteArray} (h : ∀ k (hk : k < l.length), (l[k].toList == s.toList) = false) : hasNm l s = false := by
  unfold hasNm
  rw [List.any_eq_false]
  intro x hx
  obtain ⟨k, hk, rfl⟩ := List.getElem_of_mem hx
  rw [h k hk]; simp
/-- the greatest number of an integer rule, else -1 -/
def limR (r : DRule) : Int := if r.kind = 1 ∧ 1 ≤ r.size ∧ r.size ≤ 4 then 256 ^ r.size.toNat - 1 else -1
def limD (ds : List DRule) (i : Int) : Int := if 0 ≤ i then (match ds[i.toNat]? with | some r => limR r | none => -1) else -1
theorem limR_cases (r : DRule) : limR r = -1 ∨ limR r = 255 ∨ limR r = 65535 ∨ limR r = 16777215 ∨ limR r = 4294967295 := by
  unfold limR
  split
  · rename_i h
    rcases (by omega : r.size = 1 ∨ r.size = 2 ∨ r.size = 3 ∨ r.size = 4) with e | e | e | e <;> rw [e] <;> simp
  · exact .inl rfl
theorem limD_cases (ds : List DRule) (i : Int) : limD ds i = -1 ∨ limD ds i = 255 ∨ limD ds i = 65535 ∨ limD ds i = 16777215 ∨ limD ds i = 4294967295 := by
  unfold limD
  split
  · split
    · exact limR_cases _
    · exact .inl rfl
  · exact .inl rfl
/-- the fields that a rule may have -/
def plainB (r : DRule) (size bytes names tags : Bool) (kids : Int) : Bool :=
  (size || r.size == 0) && (bytes || r.bytes.length == 0) && (names || r.names.length == 0) && (tags || r.tags.length == 0) && (decide (kids < 0) || decide ((r.kids.length : Int) = kids))
def between (n lo hi : Int) : Bool := decide (lo ≤ n) && decide (n ≤ hi)
def nameOk (l : List ByteArray) (i : Nat) : Bool := match l[i]? with | some s => isName s && !hasNm (l.take i) s | none => true
def seqOk (r : DRule) : Bool := plainB r false false true false (-1) && r.kids.length == r.names.length && between r.kids.length 1 8 && allN r.names.length (nameOk r.names)
def tagOk (lim : Int) (l : List Int) (i : Nat) : Bool := match l[i]? with | some t => between t 0 lim && (i == 0 || decide (l.getD (i - 1) 0 < t)) | none => true
def choOk (ds : List DRule) (r : DRule) : Bool := plainB r false false false true (r.tags.length + 1) && between r.tags.length 1 8 && allN r.tags.length (tagOk (limD ds (r.kids.getD 0 0)) r.tags)
def kindOk (ds : List DRule) (r : DRule) : Bool :=
  if r.kind = 1 then plainB r true false false false 0 && between r.size 1 4 && (!r.little || decide (1 < r.size))
  else if r.kind = 2 then plainB r false true false false 0 && between r.bytes.length 1 16
  else if r.kind = 3 then plainB r true false false false 0 && between r.size 1 64
  else if r.kind = 4 then plainB r false false false false 1 && decide (0 < limD ds (r.kids.getD 0 0))
  else if r.kind = 5 then plainB r false false false false 2 && decide (0 < limD ds (r.kids.getD 0 0))
  else if r.kind = 6 then seqOk r
  else if r.kind = 7 then choOk ds r
  else if r.kind = 8 then plainB r false false false false 1
  else if r.kind = 9 then plainB r false false false false 1
  else if r.kind = 10 then plainB r false true false false 0 && r.bytes.length == 1 && !(r.bytes.getD 0 0 == 92)
  else false
def freshNm (ds : List DRule) (r : DRule) (j : Nat) : Bool := match ds[j]? with | some q => !(q.nm.toList == r.nm.toList) | none => true
def kidOk (l : List Int) (i : Nat) (j : Nat) : Bool := match l[j]? with | some k => between k 0 ((i : Int) - 1) | none => true
/-- rule number i is valid -/
def ruleOk (ds : List DRule) (i : Nat) : Bool := match ds[i]? with
  | some r => isName r.nm && (!r.little || r.kind == 1) && allN i (freshNm ds r) && allN r.kids.length (kidOk r.kids i) && kindOk ds r
  | none => false
def ruleOkI (ds : List DRule) (i : Int) : Bool := decide (0 ≤ i) && ruleOk ds i.toNat
def descOk (ds : List DRule) : Bool := between ds.length 1 24 && allN ds.length (ruleOk ds)
def regOk (gs : List (List DRule)) : Bool := decide (gs.length ≤ 8) && allN gs.length (fun i => match gs[i]? with | some d => descOk d | none => true)
end Go.Proofs.YtdbbdoldndnbhaaDoor

/- A block of cells, known whole. -/
namespace Go.Proofs.YtdbbdoldndnbhaaDoor
open Go.RowKit Go.Sort

theorem heap_ext' {w w' : World} {g : Nat} {o : Obj} (h : w.heap[g]? = some o) (e : Ext w w') : w'.heap[g]? = some o := (Below.block e g (Array.getElem?_eq_some_iff.1 h).1).trans h
theorem grown_set (w : World) (a : Addr) (u : Value) : w.grownBy (w.setCell a u) (some a.block) :=
  ⟨rfl, rfl, rfl, by simp, fun k _ hk => heap_setCell_other w a k u (fun e => hk (by rw [e]))⟩
theorem grown_ext {w w' : World} (e : Ext w w') (row : Option Nat) : w.grownBy w' row := ⟨e.os, e.tape, e.output, e.size, fun i hi _ => Below.block e i hi⟩
/-- a row of cells -/
def Box (w : World) (g : Nat) (cs : Array Value) (T : TypeId) : Prop := w.heap[g]? = some (.cells cs T (0, 0))
theorem Box.lt {w : World} {g : Nat} {cs : Array Value} {T : TypeId} (h : Box w g cs T) : g < w.heap.size := (Array.getElem?_eq_some_iff.1 h).1
theorem Box.new (w : World) (cs : Array Value) (T : TypeId) : Box (w.alloc (.cells cs T)) w.heap.size cs T := heap_alloc_new w _
theorem Box.cell {w : World} {g : Nat} {cs : Array Value} {T : TypeId} (h : Box w g cs T) (i : Nat) : w.cell? ⟨g, i, none⟩ = cs[i]? := cell_of_row w g i cs T (0, 0) h
theorem Box.free {w : World} {g : Nat} {cs : Array Value} {T : TypeId} (h : Box w g cs T) (i : Nat) : w.frozen? ⟨g, i, none⟩ = false := frozen_of_row w g i cs T h
theorem Box.ext {w w' : World} {g : Nat} {cs : Array Value} {T : TypeId} (h : Box w g cs T) (e : Ext w w') : Box w' g cs T := heap_ext' h e
theorem Box.moved {w w' : World} {g : Nat} {cs : Array Value} {T : TypeId} (h : Box w g cs T) {r : Option Nat} (hg : w.grownBy w' r) (hne : r ≠ some g) : Box w' g cs T := (hg.block g h.lt (fun hh => hne hh.symm)).trans h
theorem Box.set {w : World} {g : Nat} {cs : Array Value} {T : TypeId} (h : Box w g cs T) (i : Nat) (u : Value) : Box (w.setCell ⟨g, i, none⟩ u) g (cs.setIfInBounds i u) T := heap_setCell_same w g i cs T u h
theorem Box.other {w : World} {g g' : Nat} {cs : Array Value} {T : TypeId} (h : Box w g cs T) (hne : g ≠ g') (i : Nat) (u : Value) : Box (w.setCell ⟨g', i, none⟩ u) g cs T := (heap_setCell_other w ⟨g', i, none⟩ g u hne).trans h
theorem Box.at {w : World} {g : Nat} {cs : Array Value} {T : TypeId} (h : Box w g cs T) (i : Nat) : ∀ w', Ext w w' → w'.cell? ⟨g, i, none⟩ = cs[i]? := fun _ e => (h.ext e).cell i
theorem Box.frees {w : World} {g : Nat} {cs : Array Value} {T : TypeId} (h : Box w g cs T) (i : Nat) : ∀ w', Ext w w' → w'.frozen? ⟨g, i, none⟩ = false := fun _ e => (h.ext e).free i
/-- three blocks, one behind the other -/
theorem boxes3 (w : World) (c0 c1 c2 : Array Value) (T0 T1 T2 : TypeId) :
    Box (((w.alloc (.cells c0 T0)).alloc (.cells c1 T1)).alloc (.cells c2 T2)) w.heap.size c0 T0 ∧ Box (((w.alloc (.cells c0 T0)).alloc (.cells c1 T1)).alloc (.cells c2 T2)) (w.heap.size + 1) c1 T1 ∧
    Box (((w.alloc (.cells c0 T0)).alloc (.cells c1 T1)).alloc (.cells c2 T2)) (w.heap.size + 1 + 1) c2 T2 ∧ Ext w (((w.alloc (.cells c0 T0)).alloc (.cells c1 T1)).alloc (.cells c2 T2)) ∧
    (((w.alloc (.cells c0 T0)).alloc (.cells c1 T1)).alloc (.cells c2 T2)).heap.size = w.heap.size + 3 := by
  have s1 : (w.alloc (.cells c0 T0)).heap.size = w.heap.size + 1 := by simp
  have s2 : ((w.alloc (.cells c0 T0)).alloc (.cells c1 T1)).heap.size = w.heap.size + 1 + 1 := by simp
  have h1 := Box.new (w.alloc (.cells c0 T0)) c1 T1
  have h2 := Box.new ((w.alloc (.cells c0 T0)).alloc (.cells c1 T1)) c2 T2
  rw [s1] at h1; rw [s2] at h2
  exact ⟨((Box.new w c0 T0).ext (Ext_alloc _ (Ext.refl _))).ext (Ext_alloc _ (Ext.refl _)), h1.ext (Ext_alloc _ (Ext.refl _)), h2, Ext_alloc _ (Ext_alloc _ (Ext_alloc _ (Ext.refl w))), by simp⟩
theorem boxes3' (w : World) (c0 c1 c2 : Array Value) (T0 T1 T2 : TypeId) :
    ∃ W, Hid (W = (((w.alloc (.cells c0 T0)).alloc (.cells c1 T1)).alloc (.cells c2 T2))) ∧ Box W w.heap.size c0 T0 ∧ Box W (w.heap.size + 1) c1 T1 ∧ Box W (w.heap.size + 1 + 1) c2 T2 ∧ Ext w W ∧ W.heap.size = w.heap.size + 3 :=
  ⟨_, rfl, boxes3 w c0 c1 c2 T0 T1 T2⟩
/-- a row of the call's own stays where another block is written -/
theorem Own.other {e : TypeId} {size : Nat} {w0 w : World} {v : Value} {n : Nat} {xs : List Value} (h : Own e size w0 w v n xs) (p : Addr) (u : Value) (hne : v.ownBlock ≠ some p.block) : Own e size w0 (w.setCell p u) v n xs := by
  refine World.ownsRow.kept h (grown_set w p u) ?_
  cases hb : v.ownBlock with
  | none => exact .inl rfl
  | some g => right; rw [hb] at hne; exact fun he => hne he
theorem OwnL.other {α : Type} {f : α → Value} {e : TypeId} {w0 w : World} {v : Value} {l : List α} (h : OwnL f e w0 w v l) (p : Addr) (u : Value) (hne : v.ownBlock ≠ some p.block) : OwnL f e w0 (w.setCell p u) v l := Own.other h p u hne
theorem OwnL.far {α : Type} {f : α → Value} {e : TypeId} {w0 w : World} {v : Value} {l : List α} (h : OwnL f e w0 w v l) {b : Nat} (hb : b < w0.heap.size ∨ w.heap.size ≤ b) : v.ownBlock ≠ some b := by
  intro hv
  have h1 := World.ownsRow.lt h b hv
  omega
theorem OwnL.down {α : Type} {f : α → Value} {e : TypeId} {w0 w1 w : World} {v : Value} {l : List α} (h : OwnL f e w1 w v l) (hb : w0.heap.size ≤ w1.heap.size) : OwnL f e w0 w v l := World.ownsRow.lower h hb
end Go.Proofs.YtdbbdoldndnbhaaDoor
