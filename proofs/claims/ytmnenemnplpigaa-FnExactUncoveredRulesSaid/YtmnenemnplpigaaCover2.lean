/- l38Possible of the reference: the walk.  -/
import Derived.Test.YtmnenemnplpigaaCover1
namespace Go.Proofs.Ytmnenemnplpigaa
open Go.RowKit Go.Sort

@[go_sem] def vbool (b : Bool) : Value := .bool b
theorem E_bool : Elem Try.prog 82 4 1 1 (.bool false) := ⟨Try.underlying82, by kernel_rfl, rfl, by omega⟩
theorem sRoot_n (A : Option Addr) (ds : List DRule) (c m : Nat) (w : World) (hl : ds.length ≤ 9223372036854775807) (h : ds.length = m + 1) :
    Gives Try.prog 75 #[vdesc (.slice A ds.length c)] w (.int .i64 (m : Int)) := by
  have h1 := sRoot_c A ds c w hl
  rw [show (ds.length : Int) - 1 = (m : Int) by omega] at h1
  exact h1
/-- the state of the outer loop before rule number m - 1 is looked at -/
structure PossSt (ds : List DRule) (m : Nat) (cs : List Bool) : Prop where
  len : cs.length = ds.length
  rest : possFrom ds m cs = possible ds
theorem PossSt.start {ds : List DRule} {m : Nat} (h : ds.length = m + 1) : PossSt ds (m + 1) ((List.replicate ds.length false).set m true) :=
  ⟨by simp, by unfold possible; rw [h]; rfl⟩
theorem PossSt.done {ds : List DRule} {cs : List Bool} (h : PossSt ds 0 cs) : cs = possible ds := h.rest
theorem PossSt.no {ds : List DRule} {m : Nat} {cs : List Bool} (h : PossSt ds (m + 1) cs) (hc : cs.getD m false = false) : PossSt ds m cs := by
  refine ⟨h.len, ?_⟩
  have := h.rest
  rw [possFrom] at this
  unfold possAt at this
  rw [hc] at this
  exact this
theorem PossSt.yes {ds : List DRule} {m : Nat} {cs : List Bool} (h : PossSt ds (m + 1) cs) (hm : m < ds.length) (hc : cs.getD m false = true) : PossSt ds m (setAll cs (selK ds[m] ds[m].kids.length)) := by
  refine ⟨by rw [setAll_len]; exact h.len, ?_⟩
  have := h.rest
  rw [possFrom] at this
  unfold possAt at this
  rw [if_pos hc] at this
  rw [selK_all]
  simpa [List.getD, hm] using this
set_option maxRecDepth 100000 in
set_option maxHeartbeats 4000000 in
theorem sPossible_c (A : Option Addr) (ds : List DRule) (c : Nat) (w : World) (hd : RdD w A ds c) (hv : descOk ds = true) :
    Calls Try.prog 60 #[vdesc (.slice A ds.length c)] w fun e w' => ∃ v, e = .returned v ∧ OwnL vbool 4 w w' v (possible ds) ∧ Ext w w' := by
  have hl := descOk_len hv
  have hn := hl.2
  obtain ⟨m, hm⟩ : ∃ m, ds.length = m + 1 := ⟨ds.length - 1, by omega⟩
  have HK := Lib.hid (descOk_kid hv)
  have eb := Ext_alloc (.cells #[.slice A ds.length c] 30) (Ext.refl w)
  have BX := fun w' (e : Ext (w.alloc (.cells #[.slice A ds.length c] 30)) w') => boxed e
  have CR := Lib.hid (fun w => sRoot_n A ds c m w (by omega) hm)
  have P0 := Lib.hid (PossSt.start hm)
  unfold vdesc at *
  obtain ⟨W0, hW0⟩ : ∃ W0, W0 = (w.alloc (.cells #[.slice A ds.length c] 30)) := ⟨_, rfl⟩
  rw [← hW0] at eb BX
  have HW0 := Lib.hid hW0; have HM := Lib.hid hm; clear hW0 hm
  go_enter Try.func60, Try.ntmps60
  go_wp2_with (first
    | (at_make; go_must (rw [← HW0.out]; refine wpList_mk rfl _ _ _ rfl E_bool W0 W0 (Ext.refl W0) ds.length rfl rfl (by omega) (by simp [maxLen]; omega) ?_); intro w1 ho he _))
  refine (CR.out _).mono ?_; rintro _ w2 ⟨rfl, s2⟩
  have e2 := he.trans s2
  have ho2 := Own.ext ho s2
  rw [made_one _ rfl] at ho2
  obtain ⟨⟨u0, hu⟩, hf⟩ := ho2.slot m (by have := HM.out; simp; omega)
  obtain ⟨ho3, he3⟩ := ho2.store e2 m (.bool true)
  have HS : Hid ((List.replicate ds.length (Value.bool false)).set m (.bool true) = ((List.replicate ds.length false).set m true).map vbool) := by show _ = _; rw [List.map_set, List.map_replicate]; rfl
  rw [HS.out] at ho3
  clear ho ho2 he HS s2 e2
  have hmn : m < ds.length := by have := HM.out; omega
  go_wp2_with fail
  refine (CR.out _).mono ?_; rintro _ w4 ⟨rfl, s4⟩
  have e4 := he3.trans s4
  have HO4 := Lib.hid (Own.ext ho3 s4)
  clear ho3 he3 s4 hu hf
  go_wp2
  go_loopw [4] (fun i wr => ∃ (q : Nat) (cs : List Bool), q ≤ ds.length ∧ i = .int .i64 ((q : Int) - 1) ∧ Hid (PossSt ds q cs) ∧ Hid (Own 4 1 W0 wr (.slice (some ⟨W0.heap.size, 0, none⟩) ds.length ds.length) ds.length (cs.map vbool)) ∧ Ext W0 wr) (fun i _ => (intOf i + 1).toNat)
  case atStart => exact ⟨m + 1, _, by omega, by go_num, P0, HO4, e4⟩
  case round =>
    clear P0 HO4 e4
    obtain ⟨q, cs, hq, rfl, hp, ho, he⟩ := hrel
    rcases Nat.eq_zero_or_pos q with rfl | hq0
    · have HF := Lib.hid hp.out.done; clear hp
      go_wp2
      go_ret
      refine ⟨_, rfl, ?_, eb.trans he⟩
      have := ho.out
      rw [HF.out] at this
      unfold OwnL
      rw [possible_len]
      exact World.ownsRow.lower this eb.size
    · obtain ⟨i, rfl⟩ : ∃ i, q = i + 1 := ⟨q - 1, by omega⟩
      have hi : i < ds.length := by omega
      have hlen := hp.out.len
      have HN := Lib.hid (fun h => hp.out.no (m := i) h)
      have HY := Lib.hid (fun h => hp.out.yes (m := i) hi h)
      have HKi := Lib.hid (HK.out i hi)
      obtain ⟨ba, oa, Ab, cb, An, cn, At, ct, Ak, ck, rfl, hba, hSa, hRa⟩ := hd.at i hi
      have hki := hSa.k.ext eb
      clear hp hq0 hmn
      generalize ds[i] = r at *
      obtain ⟨l0, l1, l2, l3, l4, l5, l6, l7⟩ := hRa.ext eb
      clear hRa hSa
      have hcm : (cs.map vbool)[i]? = some (.bool cs[i]) := by rw [List.getElem?_map, List.getElem?_eq_getElem (by omega)]; rfl
      have hz : cs.getD i false = cs[i] := by simp [hlen, hi]
      have HT := Lib.hid (fun k => setAll_true cs (selK r k) i)
      have hgi : cs[i]? = some cs[i] := List.getElem?_eq_getElem (by omega)
      rw [hgi] at HT
      rw [hz] at HN HY
      generalize cs[i] = z at *
      clear hz hgi
      have hbx := Box.new wr #[.string r.nm, .int .i64 r.kind, .int .i64 r.size, .bool r.little, .slice Ab r.bytes.length cb, .slice An r.names.length cn, .slice At r.tags.length ct, .slice Ak r.kids.length ck] 91
      have x1 := Ext_alloc (.cells #[.string r.nm, .int .i64 r.kind, .int .i64 r.size, .bool r.little, .slice Ab r.bytes.length cb, .slice An r.names.length cn, .slice At r.tags.length ct, .slice Ak r.kids.length ck] 91) (Ext.refl wr)
      have e1 := he.trans x1
      have ho1 := Lib.hid (Own.ext ho.out x1)
      have hgb : W0.heap.size ≤ wr.heap.size := he.size
      have hBg : W0.heap.size ≠ wr.heap.size := by have h : W0.heap.size < wr.heap.size := (ho.out.lt _ rfl).2; omega
      rw [show ((i + 1 : Nat) : Int) - 1 = (i : Int) by omega]
      have hkl := hki.len
      cases z
      · have HE := Lib.hid (HN.out rfl); clear HN HY HT
        go_wp2
        go_loopw [6] (fun kk wq => kk = .int .i64 0 ∧ wq = (wr.alloc (.cells #[.string r.nm, .int .i64 r.kind, .int .i64 r.size, .bool r.little, .slice Ab r.bytes.length cb, .slice An r.names.length cn, .slice At r.tags.length ct, .slice Ak r.kids.length ck] 91))) (fun _ _ => 0)
        case atStart => exact ⟨rfl, rfl⟩
        case round =>
          obtain ⟨rfl, rfl⟩ := hrel
          have b7 := hbx.cell 7
          have b7 : _ = some (Value.slice Ak r.kids.length ck) := b7
          have ci := ho1.out.cellAt i (by omega)
          rw [hcm] at ci
          have HO := Lib.hid ho1.out
          clear ho1
          by_cases h0 : 0 < r.kids.length
          · have d1 : decide ((0 : Int) < (r.kids.length : Int)) = true := by simp; omega
            go_wp2
            go_roundw
            case rel => exact ⟨i, cs, by omega, rfl, HE, HO, e1⟩
            case measure => simp [intOf]
          · have d1 : decide ((0 : Int) < (r.kids.length : Int)) = false := decide_eq_false (by omega)
            go_wp2
            go_roundw
            case rel => exact ⟨i, cs, by omega, rfl, HE, HO, e1⟩
            case measure => simp [intOf]
      · have HE := Lib.hid (HY.out rfl); have HT1 : Hid (∀ k, (setAll cs (selK r k))[i]? = some true) := fun k => HT.out k rfl
        clear HN HY HT
        have HZ : Hid (setAll cs (selK r 0) = cs) := by show _ = _; rw [selK_zero]; rfl
        go_wp2
        go_loopw [6] (fun kk wq => ∃ k : Nat, k ≤ r.kids.length ∧ kk = .int .i64 k ∧ Hid (Own 4 1 W0 wq (.slice (some ⟨W0.heap.size, 0, none⟩) ds.length ds.length) ds.length ((setAll cs (selK r k)).map vbool)) ∧ Box wq wr.heap.size #[.string r.nm, .int .i64 r.kind, .int .i64 r.size, .bool r.little, .slice Ab r.bytes.length cb, .slice An r.names.length cn, .slice At r.tags.length ct, .slice Ak r.kids.length ck] 91 ∧ Ext W0 wq) (fun kk _ => r.kids.length - (intOf kk).toNat)
        case atStart => exact ⟨0, by omega, rfl, by rw [HZ.out]; exact ho1, hbx, e1⟩
        case round =>
          clear ho1 hbx x1 e1 he ho hcm HZ
          obtain ⟨k, hk, rfl, ho, hbx, he⟩ := hrel
          have hcl : (setAll cs (selK r k)).length = ds.length := by rw [setAll_len]; exact hlen
          have b1 : _ = some (Value.int .i64 r.kind) := hbx.cell 1
          have b7 : _ = some (Value.slice Ak r.kids.length ck) := hbx.cell 7
          have ci := ho.out.cellAt i (by omega)
          rw [List.getElem?_map, HT1.out] at ci
          rw [show Option.map vbool (some true) = some (.bool true) from rfl] at ci
          by_cases hlt : k < r.kids.length
          · obtain ⟨bk, ok, rfl, hbk, hck⟩ := hki.at k hlt
            have hkk := HKi.out k hlt
            have HS1 := Lib.hid (fun h => selK_step r k hlt h)
            have HS2 := Lib.hid (fun h => selK_skip r h)
            have d1 : decide ((k : Int) < (r.kids.length : Int)) = true := by simp; omega
            generalize r.kids[k] = x at *
            obtain ⟨x, rfl⟩ : ∃ y : Nat, x = (y : Int) := ⟨x.toNat, by omega⟩
            have hx : x < ds.length := by omega
            by_cases hsel : 0 < k ∨ ¬ (r.kind = 4 ∨ r.kind = 5 ∨ r.kind = 7)
            · have HL : Hid (((setAll cs (selK r k)).map vbool).set x (.bool true) = (setAll cs (selK r (k + 1))).map vbool) := by
                show _ = _; rw [HS1.out hsel, setAll_snoc, List.map_set]; rfl
              obtain ⟨⟨u0, hu⟩, hf⟩ := ho.out.slot x (by rw [List.length_map, hcl]; exact hx)
              obtain ⟨ho', he'⟩ := ho.out.store he x (.bool true)
              rw [HL.out] at ho'
              have HO' := Lib.hid ho'; have HE' := Lib.hid he'
              have hbx' := Lib.hid (hbx.other (g' := W0.heap.size) (fun h => hBg h.symm) x (.bool true))
              clear ho' he' HS1 HS2 HL
              rcases (by omega : 0 < k ∨ (k = 0 ∧ ¬ r.kind = 4 ∧ ¬ r.kind = 5 ∧ ¬ r.kind = 7)) with h0 | ⟨h0, h4, h5, h7⟩
              · have d2 : decide (0 < (k : Int)) = true := by simp; omega
                clear hsel
                go_wp2
                go_roundw
                case rel => exact ⟨k + 1, by omega, by go_num, HO', hbx'.out, HE'.out⟩
                case measure => simp [intOf]; omega
              · have d2 : decide (0 < (k : Int)) = false := by simp; omega
                have k4 : (r.kind != 4) = true := by simpa using h4
                have k5 : (r.kind != 5) = true := by simpa using h5
                have k7 : (r.kind != 7) = true := by simpa using h7
                clear hsel h4 h5 h7 d2
                subst h0
                simp only [Nat.add_zero] at hck
                go_wp2
                go_roundw
                case rel => exact ⟨0 + 1, by omega, by go_num, HO', hbx'.out, HE'.out⟩
                case measure => simp [intOf]; omega
            · have hk0 : k = 0 := by omega
              have HL : Hid (setAll cs (selK r k) = setAll cs (selK r (k + 1))) := by show _ = _; rw [hk0, HS2.out (by omega)]
              have HO' : Hid (Own 4 1 W0 wr (.slice (some ⟨W0.heap.size, 0, none⟩) ds.length ds.length) ds.length ((setAll cs (selK r (k + 1))).map vbool)) := by rw [← HL.out]; exact ho
              have d2 : decide (0 < (k : Int)) = false := by simp; omega
              clear HS1 HS2 HL ho
              rcases (by omega : r.kind = 4 ∨ r.kind = 5 ∨ r.kind = 7) with h4 | h4 | h4
              · have k4 : (r.kind != 4) = false := by simpa using h4
                clear hsel h4
                go_wp2
                go_roundw
                case rel => exact ⟨k + 1, by omega, by go_num, HO', hbx, he⟩
                case measure => simp [intOf]; omega
              · have k4 : (r.kind != 4) = true := by have h5 : ¬ r.kind = 4 := by omega
                                                     simpa using h5
                have k5 : (r.kind != 5) = false := by simpa using h4
                clear hsel h4
                go_wp2
                go_roundw
                case rel => exact ⟨k + 1, by omega, by go_num, HO', hbx, he⟩
                case measure => simp [intOf]; omega
              · have k4 : (r.kind != 4) = true := by have h5 : ¬ r.kind = 4 := by omega
                                                     simpa using h5
                have k5 : (r.kind != 5) = true := by have h5 : ¬ r.kind = 5 := by omega
                                                     simpa using h5
                have k7 : (r.kind != 7) = false := by simpa using h4
                clear hsel h4
                go_wp2
                go_roundw
                case rel => exact ⟨k + 1, by omega, by go_num, HO', hbx, he⟩
                case measure => simp [intOf]; omega
          · obtain rfl : k = r.kids.length := by omega
            go_wp2
            go_roundw
            case rel => exact ⟨i, _, by omega, rfl, HE, ho, he⟩
            case measure => simp [intOf]
end Go.Proofs.Ytmnenemnplpigaa
