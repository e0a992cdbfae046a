/- UnpackBytes and IsPacked of the program and of the reference. -/
import Derived.Test.YtcaeeoghkonniaaCopy
import Derived.Test.YtcaeeoghkonniaaUnpackPure
namespace Go.Proofs.Ytcaeeoghkonniaa
open Go.RowKit Go.Sort

set_option maxRecDepth 100000 in
set_option maxHeartbeats 1000000 in
theorem iUnpackBytes_c (A : Option Addr) (l : List UInt8) (c : Nat) (w : World) (h : Bs w A l c) :
    Calls Try.prog 45 #[.slice A l.length c] w fun e w' => ∃ v, e = .returned (.tuple #[v, .bool (unpack l).isSome]) ∧ OwnL vu8 5 w w' v ((unpack l).getD []) ∧ Ext w w' := by
  have hl := h.len
  go_enter Try.func45, Try.ntmps45
  go_wp2
  go_loopw [4, 5] (fun t i wr => ∃ (a : Nat) (out : List UInt8), a ≤ l.length ∧ i = .int .i64 a ∧ OwnL vu8 5 w wr t out ∧ out.length ≤ 1000 ∧ Hid (unpackAt l a out = unpack l) ∧ Ext w wr) (fun _ i _ => l.length - (intOf i).toNat)
  case atStart => exact ⟨0, [], by omega, rfl, OwnL.empty (Ext.refl _), by simp, by simp [Hid, unpackAt, unpack], Ext_alloc _ (Ext.refl _)⟩
  case round =>
    obtain ⟨a, out, ha, rfl, ho, hout, hs, he⟩ := hrel
    by_cases hlt : a < l.length
    · obtain ⟨b, off, rfl, hb, hcs⟩ := h.base (by omega)
      have hc := fun w' e => hcs w' e a hlt
      have hstep := Lib.hid (unpackAt_step l a out hlt)
      have hx : (l[a].toNat : Int) ≤ 255 := by have := l[a].toNat_lt; omega
      have e0 : (l[a] = 0) ↔ l[a].toNat = 0 := by rw [← UInt8.toNat_inj]; simp
      have e128 : (l[a] = 128) ↔ l[a].toNat = 128 := by rw [← UInt8.toNat_inj]; simp
      have elt : (l[a] < 128) ↔ l[a].toNat < 128 := by rw [UInt8.lt_iff_toNat_lt]; simp
      by_cases c1 : l[a] = 0 ∨ l[a] = 128 ∨ l.length = a + 1
      · have HN : Hid (unpack l = none) := by have := hs.out; rw [hstep.out, if_pos c1] at this; exact this.symm
        rw [e0, e128] at c1
        clear hs hstep e0 e128 elt ho
        cases d1 : ((l[a].toNat : Int) == 0) <;> cases d2 : ((l[a].toNat : Int) == 128) <;> cases d3 : ((a:Int) + 1 == (l.length:Int))
        all_goals first
          | (exfalso; simp at d1 d2 d3; omega)
          | (clear c1; go_wp2; go_ret2; rw [HN.out]; exact ⟨_, rfl, OwnL.empty he, Ext_alloc _ he⟩)
      · have c1' : ¬ (l[a].toNat = 0 ∨ l[a].toNat = 128 ∨ l.length = a + 1) := by rw [← e0, ← e128]; exact c1
        have d1 : ((l[a].toNat : Int) == 0) = false := beq_eq_false_iff_ne.2 (by omega)
        have d2 : ((l[a].toNat : Int) == 128) = false := beq_eq_false_iff_ne.2 (by omega)
        have d3 : ((a:Int) + 1 == (l.length:Int)) = false := beq_eq_false_iff_ne.2 (by omega)
        have hs := Lib.hid (hs.out.symm.trans (hstep.out.trans (if_neg c1)))
        by_cases c2 : l[a] < 128
        · have hs := Lib.hid (hs.out.trans (if_pos c2))
          rw [elt] at c2
          clear hstep e0 e128 elt c1
          by_cases c3 : l.length < a + 1 + l[a].toNat
          · have HN : Hid (unpack l = none) := hs.out.trans (if_pos c3)
            clear hs ho
            go_wp2
            go_ret2; rw [HN.out]; exact ⟨_, rfl, OwnL.empty he, Ext_alloc _ he⟩
          · have hs := Lib.hid (hs.out.trans (if_neg c3))
            have hcap := h.cap
            have hcells := part_cells (hcs wr he) (a + 1) l[a].toNat
            have hln : a + 1 + l[a].toNat - (a + 1) = ((l.drop (a+1)).take l[a].toNat).length := by simp; omega
            have hlen : ((l.drop (a+1)).take l[a].toNat).length = l[a].toNat := by simp; omega
            have HC := Lib.hid hcells; have HL := Lib.hid hln; have HN := Lib.hid hlen
            have HB : (out.length + ((l.drop (a+1)).take l[a].toNat).length) * 1 ≤ 140737488355328 := by omega
            have HB := Lib.hid HB; clear hcells hln hlen hcs
            go_wp2_with (first
              | (at_builtin; go_must (refine wpList_appL rfl (.tmp 57) (.tmp 63) _ rfl E_u8 (by omega) w wr vu8 (fun _ => rfl) u4 rfl _ _ _ rfl out ((l.drop (a+1)).take l[a].toNat) ho he HL.out (fun _ => ⟨_, rfl, HC.out⟩) HB.out ?_); intro v1 w1 ho1 he1 _ _; obtain ⟨A1, c1, hv1, _⟩ := ho1.rd (by rw [List.length_append, HN.out]; omega); subst hv1))
            · have hbig : ((1000 : Int) < (out.length : Int) + (min l[a].toNat (l.length - (a + 1)) : Nat)) := by assumption
              have HN2 : Hid (unpack l = none) := hs.out.trans (if_pos (by omega))
              go_ret2; rw [HN2.out]; exact ⟨_, rfl, OwnL.empty he1, Ext_alloc _ he1⟩
            · have hsm : (out.length : Int) + (min l[a].toNat (l.length - (a + 1)) : Nat) ≤ 1000 := by assumption
              have hs2 := hs.out.trans (if_neg (by omega))
              go_roundw
              case rel => exact ⟨a + 1 + l[a].toNat, out ++ (l.drop (a+1)).take l[a].toNat, by omega, by go_num, by simpa using ho1, by simp; omega, hs2.symm, he1⟩
              case measure => simp [intOf]; omega
        · have hs := Lib.hid (hs.out.trans (if_neg c2))
          rw [elt] at c2
          clear hstep e0 e128 elt c1
          have ha1 : a + 1 < l.length := by omega
          have hhd : (l.drop (a+1)).headD 0 = l[a+1] := by rw [List.drop_eq_getElem_cons ha1]; rfl
          have HD := Lib.hid hhd; clear hhd
          have hc' := fun w' e => hcs w' e (a+1) ha1
          have d5 : decide ((128 : Int) < (l[a].toNat : Int)) = true := by simp; omega
          go_wp2
          go_loopw [4, 21] (fun t i wq => ∃ j : Nat, j ≤ l[a].toNat - 128 ∧ i = .int .i64 j ∧ OwnL vu8 5 w wq t (out ++ List.replicate j l[a+1]) ∧ Ext w wq) (fun _ i _ => l[a].toNat - 128 - (intOf i).toNat)
          case atStart => exact ⟨0, by omega, rfl, by simpa using ho, he⟩
          case round =>
            clear ho he
            obtain ⟨j, hj, rfl, ho, he⟩ := hrel
            by_cases hjn : j < l[a].toNat - 128
            · have HR : Hid (out ++ List.replicate j l[a+1] ++ [l[a+1]] = out ++ List.replicate (j+1) l[a+1]) := by rw [List.append_assoc, ← List.replicate_succ']; rfl
              have HB : ((out ++ List.replicate j l[a+1]).length + [l[a+1]].length) * 1 ≤ 140737488355328 := by simp; omega
              have HB := Lib.hid HB
              go_wp2_with (first
                | (at_builtin; go_must (refine wpList_appN rfl (.tmp 23) (.tmp 28) _ rfl E_u8 (by omega) w _ vu8 (fun _ => rfl) _ rfl _ _ rfl (out ++ List.replicate j l[a+1]) [l[a+1]] _ rfl ho he rfl HB.out ?_); intro v1 w1 ho1 he1; rw [HR.out] at ho1))
              go_roundw
              case rel => exact ⟨j+1, by omega, by go_num, ho1, he1⟩
              case measure => simp [intOf]; omega
            · obtain rfl : j = l[a].toNat - 128 := by omega
              obtain ⟨A1, c1, rfl, _⟩ := ho.rd (by simp; omega)
              go_wp2
              · have hbig : ((1000 : Int) < (out.length : Int) + ((l[a].toNat - 128 : Nat) : Int)) := by assumption
                have HN2 : Hid (unpack l = none) := hs.out.trans (if_pos (by omega))
                go_ret2; rw [HN2.out]; exact ⟨_, rfl, OwnL.empty he, Ext_alloc _ he⟩
              · have hsm : (out.length : Int) + ((l[a].toNat - 128 : Nat) : Int) ≤ 1000 := by assumption
                have hs2 := hs.out.trans (if_neg (by omega))
                rw [HD.out] at hs2
                go_roundw
                case rel => exact ⟨a + 2, out ++ List.replicate (l[a].toNat - 128) l[a+1], by omega, by go_num, by simpa using ho, by simp; omega, hs2.symm, he⟩
                case measure => simp [intOf]; omega
    · go_wp2
      go_ret2
      have hn := hs.out.symm.trans (unpackAt_end l a out (by omega))
      rw [hn]
      exact ⟨_, rfl, ho, he⟩

set_option maxRecDepth 100000 in
set_option maxHeartbeats 1000000 in
theorem sUnpackBytes_c (A : Option Addr) (l : List UInt8) (c : Nat) (w : World) (h : Bs w A l c) :
    Calls Try.prog 47 #[.slice A l.length c] w fun e w' => ∃ v, e = .returned (.tuple #[v, .bool (unpack l).isSome]) ∧ OwnL vu8 5 w w' v ((unpack l).getD []) ∧ Ext w w' := by
  have hl := h.len
  go_enter Try.func47, Try.ntmps47
  go_wp2
  go_loopw [4, 5] (fun t i wr => ∃ (a : Nat) (out : List UInt8), a ≤ l.length ∧ i = .int .i64 a ∧ OwnL vu8 5 w wr t out ∧ out.length ≤ 1000 ∧ Hid (unpackAt l a out = unpack l) ∧ Ext w wr) (fun _ i _ => l.length - (intOf i).toNat)
  case atStart => exact ⟨0, [], by omega, rfl, OwnL.empty (Ext.refl _), by simp, by simp [Hid, unpackAt, unpack], Ext_alloc _ (Ext.refl _)⟩
  case round =>
    obtain ⟨a, out, ha, rfl, ho, hout, hs, he⟩ := hrel
    by_cases hlt : a < l.length
    · obtain ⟨b, off, rfl, hb, hcs⟩ := h.base (by omega)
      have hc := fun w' e => hcs w' e a hlt
      have hstep := Lib.hid (unpackAt_step l a out hlt)
      have hx : (l[a].toNat : Int) ≤ 255 := by have := l[a].toNat_lt; omega
      have e0 : (l[a] = 0) ↔ l[a].toNat = 0 := by rw [← UInt8.toNat_inj]; simp
      have e128 : (l[a] = 128) ↔ l[a].toNat = 128 := by rw [← UInt8.toNat_inj]; simp
      have elt : (l[a] < 128) ↔ l[a].toNat < 128 := by rw [UInt8.lt_iff_toNat_lt]; simp
      by_cases c1 : l[a] = 0 ∨ l[a] = 128 ∨ l.length = a + 1
      · have HN : Hid (unpack l = none) := by have := hs.out; rw [hstep.out, if_pos c1] at this; exact this.symm
        rw [e0, e128] at c1
        clear hs hstep e0 e128 elt ho
        cases d1 : ((l[a].toNat : Int) == 0) <;> cases d2 : ((l[a].toNat : Int) == 128) <;> cases d3 : (decide ((l.length:Int) ≤ (a:Int) + 1))
        all_goals first
          | (exfalso; simp at d1 d2 d3; omega)
          | (clear c1; go_wp2; go_ret2; rw [HN.out]; exact ⟨_, rfl, OwnL.empty he, Ext_alloc _ he⟩)
      · have c1' : ¬ (l[a].toNat = 0 ∨ l[a].toNat = 128 ∨ l.length = a + 1) := by rw [← e0, ← e128]; exact c1
        have d1 : ((l[a].toNat : Int) == 0) = false := beq_eq_false_iff_ne.2 (by omega)
        have d2 : ((l[a].toNat : Int) == 128) = false := beq_eq_false_iff_ne.2 (by omega)
        have d3 : (decide ((l.length:Int) ≤ (a:Int) + 1)) = false := decide_eq_false (by omega)
        have hs := Lib.hid (hs.out.symm.trans (hstep.out.trans (if_neg c1)))
        by_cases c2 : l[a] < 128
        · have hs := Lib.hid (hs.out.trans (if_pos c2))
          rw [elt] at c2
          clear hstep e0 e128 elt c1
          by_cases c3 : l.length < a + 1 + l[a].toNat
          · have HN : Hid (unpack l = none) := hs.out.trans (if_pos c3)
            clear hs ho
            go_wp2
            go_ret2; rw [HN.out]; exact ⟨_, rfl, OwnL.empty he, Ext_alloc _ he⟩
          · have hs := Lib.hid (hs.out.trans (if_neg c3))
            have hcap := h.cap
            have hcells := part_cells (hcs wr he) (a + 1) l[a].toNat
            have hln : a + 1 + l[a].toNat - (a + 1) = ((l.drop (a+1)).take l[a].toNat).length := by simp; omega
            have hlen : ((l.drop (a+1)).take l[a].toNat).length = l[a].toNat := by simp; omega
            have HC := Lib.hid hcells; have HL := Lib.hid hln; have HN := Lib.hid hlen
            have HB : (out.length + ((l.drop (a+1)).take l[a].toNat).length) * 1 ≤ 140737488355328 := by omega
            have HB := Lib.hid HB; clear hcells hln hlen hcs
            go_wp2_with (first
              | (at_builtin; go_must (refine wpList_appL rfl (.tmp 26) (.tmp 34) _ rfl E_u8 (by omega) w wr vu8 (fun _ => rfl) u4 rfl _ _ _ rfl out ((l.drop (a+1)).take l[a].toNat) ho he HL.out (fun _ => ⟨_, rfl, HC.out⟩) HB.out ?_); intro v1 w1 ho1 he1 _ _; obtain ⟨A1, c1, hv1, _⟩ := ho1.rd (by rw [List.length_append, HN.out]; omega); subst hv1))
            · have hbig : ((1000 : Int) < (out.length : Int) + (min l[a].toNat (l.length - (a + 1)) : Nat)) := by assumption
              have HN2 : Hid (unpack l = none) := hs.out.trans (if_pos (by omega))
              go_ret2; rw [HN2.out]; exact ⟨_, rfl, OwnL.empty he1, Ext_alloc _ he1⟩
            · have hsm : (out.length : Int) + (min l[a].toNat (l.length - (a + 1)) : Nat) ≤ 1000 := by assumption
              have hs2 := hs.out.trans (if_neg (by omega))
              go_roundw
              case rel => exact ⟨a + 1 + l[a].toNat, out ++ (l.drop (a+1)).take l[a].toNat, by omega, by go_num, by simpa using ho1, by simp; omega, hs2.symm, he1⟩
              case measure => simp [intOf]; omega
        · have hs := Lib.hid (hs.out.trans (if_neg c2))
          rw [elt] at c2
          clear hstep e0 e128 elt c1
          have ha1 : a + 1 < l.length := by omega
          have hhd : (l.drop (a+1)).headD 0 = l[a+1] := by rw [List.drop_eq_getElem_cons ha1]; rfl
          have HD := Lib.hid hhd; clear hhd
          have hc' := fun w' e => hcs w' e (a+1) ha1
          have d5 : decide ((128 : Int) < (l[a].toNat : Int)) = true := by simp; omega
          go_wp2
          go_loopw [4, 7] (fun t i wq => ∃ j : Nat, j ≤ l[a].toNat - 128 ∧ i = .int .i64 j ∧ OwnL vu8 5 w wq t (out ++ List.replicate j l[a+1]) ∧ Ext w wq) (fun _ i _ => l[a].toNat - 128 - (intOf i).toNat)
          case atStart => exact ⟨0, by omega, rfl, by simpa using ho, he⟩
          case round =>
            clear ho he
            obtain ⟨j, hj, rfl, ho, he⟩ := hrel
            by_cases hjn : j < l[a].toNat - 128
            · have HR : Hid (out ++ List.replicate j l[a+1] ++ [l[a+1]] = out ++ List.replicate (j+1) l[a+1]) := by rw [List.append_assoc, ← List.replicate_succ']; rfl
              have HB : ((out ++ List.replicate j l[a+1]).length + [l[a+1]].length) * 1 ≤ 140737488355328 := by simp; omega
              have HB := Lib.hid HB
              go_wp2_with (first
                | (at_builtin; go_must (refine wpList_appN rfl (.tmp 64) (.tmp 70) _ rfl E_u8 (by omega) w _ vu8 (fun _ => rfl) _ rfl _ _ rfl (out ++ List.replicate j l[a+1]) [l[a+1]] _ rfl ho he rfl HB.out ?_); intro v1 w1 ho1 he1; rw [HR.out] at ho1))
              go_roundw
              case rel => exact ⟨j+1, by omega, by go_num, ho1, he1⟩
              case measure => simp [intOf]; omega
            · obtain rfl : j = l[a].toNat - 128 := by omega
              obtain ⟨A1, c1, rfl, _⟩ := ho.rd (by simp; omega)
              go_wp2
              · have hbig : ((1000 : Int) < (out.length : Int) + ((l[a].toNat - 128 : Nat) : Int)) := by assumption
                have HN2 : Hid (unpack l = none) := hs.out.trans (if_pos (by omega))
                go_ret2; rw [HN2.out]; exact ⟨_, rfl, OwnL.empty he, Ext_alloc _ he⟩
              · have hsm : (out.length : Int) + ((l[a].toNat - 128 : Nat) : Int) ≤ 1000 := by assumption
                have hs2 := hs.out.trans (if_neg (by omega))
                rw [HD.out] at hs2
                go_roundw
                case rel => exact ⟨a + 2, out ++ List.replicate (l[a].toNat - 128) l[a+1], by omega, by go_num, by simpa using ho, by simp; omega, hs2.symm, he⟩
                case measure => simp [intOf]; omega
    · go_wp2
      go_ret2
      have hn := hs.out.symm.trans (unpackAt_end l a out (by omega))
      rw [hn]
      exact ⟨_, rfl, ho, he⟩


end Go.Proofs.Ytcaeeoghkonniaa
