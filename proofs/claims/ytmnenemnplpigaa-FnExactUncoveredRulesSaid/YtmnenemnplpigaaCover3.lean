/- entryRules of the program: the walk. -/
import Derived.Test.YtmnenemnplpigaaCover2
import Derived.Test.YtmnenemnplpigaaExtPure
namespace Go.Proofs.Ytmnenemnplpigaa
open Go.RowKit Go.Sort

theorem iRoot_n (A : Option Addr) (ds : List DRule) (c m : Nat) (w : World) (hl : ds.length ≤ 9223372036854775807) (h : ds.length = m + 1) :
    Gives Try.prog 76 #[vdesc (.slice A ds.length c)] w (.int .i64 (m : Int)) := by
  have h1 := iRoot_c A ds c w hl
  rw [show (ds.length : Int) - 1 = (m : Int) by omega] at h1
  exact h1
def entriesI (ds : List DRule) : List Int := (entries ds).map fun (i : Nat) => (i : Int)
theorem kids_pos {ds : List DRule} (h : descOk ds = true) (i : Nat) (hi : i < ds.length) (hk : ds[i].kind = 4 ∨ ds[i].kind = 5 ∨ ds[i].kind = 7) : 0 < ds[i].kids.length := by
  rcases hk with hk | hk | hk
  · have h1 := ruleKind h i hi
    generalize ds[i] = r at *
    unfold kindOk at h1; rw [if_neg (by omega), if_neg (by omega), if_neg (by omega), if_pos hk] at h1
    rw [Bool.and_eq_true] at h1
    have := (plainB_facts h1.1).2.2.2 (by omega); omega
  · have h1 := ruleKind h i hi
    generalize ds[i] = r at *
    unfold kindOk at h1; rw [if_neg (by omega), if_neg (by omega), if_neg (by omega), if_neg (by omega), if_pos hk] at h1
    rw [Bool.and_eq_true] at h1
    have := (plainB_facts h1.1).2.2.2 (by omega); omega
  · have := ((ruleFacts h i hi).cho hk).1; omega
/-- the array of 24 flags -/
def arr (cs : List Bool) : Array Value := ((cs ++ List.replicate (24 - cs.length) false).map vbool).toArray
theorem arr_start {n : Nat} (h : n ≤ 24) : arr (List.replicate n false) = #[.bool false, .bool false, .bool false, .bool false, .bool false, .bool false, .bool false, .bool false, .bool false, .bool false, .bool false, .bool false, .bool false, .bool false, .bool false, .bool false, .bool false, .bool false, .bool false, .bool false, .bool false, .bool false, .bool false, .bool false] := by
  unfold arr
  rw [List.length_replicate, List.replicate_append_replicate, show n + (24 - n) = 24 by omega]; rfl
theorem arr_get {cs : List Bool} {i : Nat} (h : i < cs.length) : (arr cs)[i]? = some (.bool cs[i]) := by
  unfold arr; rw [List.getElem?_toArray, List.getElem?_map, List.getElem?_append_left h, List.getElem?_eq_getElem h]; rfl
theorem arr_set {cs : List Bool} {i : Nat} (h : i < cs.length) : (arr cs).setIfInBounds i (.bool true) = arr (cs.set i true) := by
  unfold arr; rw [List.setIfInBounds_toArray, List.length_set, ← List.set_append_left _ _ h, List.map_set]; rfl
theorem PossSt.all {ds : List DRule} {m : Nat} {cs : List Bool} (h : PossSt ds (m + 1) cs) (hm : m < ds.length) (hc : cs.getD m false = true) : PossSt ds m (setAll cs (kidsOf ds[m])) := by
  have := h.yes hm hc; rwa [selK_all] at this
theorem kidsOf_mem {r : DRule} {x : Int} (h : x ∈ kidsOf r) : x ∈ r.kids := by
  unfold kidsOf at h; split at h
  · exact List.mem_of_mem_drop h
  · exact h
set_option maxRecDepth 100000 in
set_option maxHeartbeats 4000000 in
theorem iEntry_c (A : Option Addr) (ds : List DRule) (c : Nat) (w : World) (hd : RdD w A ds c) (hv : descOk ds = true) :
    Calls Try.prog 64 #[vdesc (.slice A ds.length c)] w fun e w' => ∃ v, e = .returned v ∧ OwnL vint 3 w w' v (entriesI ds) ∧ Ext w w' := by
  have hl := descOk_len hv
  have hn := hl.2
  obtain ⟨m, hm⟩ : ∃ m, ds.length = m + 1 := ⟨ds.length - 1, by omega⟩
  have HK := Lib.hid (descOk_kid hv)
  have eb := Ext_alloc (.cells #[.slice A ds.length c] 30) (Ext.refl w)
  have BX := fun w' (e : Ext (w.alloc (.cells #[.slice A ds.length c] 30)) w') => boxed e
  have CR := Lib.hid (fun w => iRoot_n A ds c m w (by omega) hm)
  have P0 := Lib.hid (PossSt.start hm)
  unfold vdesc at *
  obtain ⟨W0, hW0⟩ : ∃ W0, W0 = (w.alloc (.cells #[.slice A ds.length c] 30)) := ⟨_, rfl⟩
  rw [← hW0] at eb BX
  have HW0 := Lib.hid hW0; have HM := Lib.hid hm; clear hW0 hm
  have hmn : m < ds.length := by have := HM.out; omega
  go_enter Try.func64, Try.ntmps64
  go_wp2_with fail
  rw [← HW0.out]
  have hs0 : W0.heap.size = w.heap.size + 1 := by rw [HW0.out]; simp
  rw [← hs0]
  have HS0 := Lib.hid hs0; clear hs0
  have hb1 := Box.new W0 (arr (List.replicate ds.length false)) 122
  rw [arr_start hn] at hb1
  have e1 := Ext_alloc (.cells #[.bool false, .bool false, .bool false, .bool false, .bool false, .bool false, .bool false, .bool false, .bool false, .bool false, .bool false, .bool false, .bool false, .bool false, .bool false, .bool false, .bool false, .bool false, .bool false, .bool false, .bool false, .bool false, .bool false, .bool false] 122) (Ext.refl W0)
  refine (CR.out _).mono ?_; rintro _ w2 ⟨rfl, s2⟩
  have e2 := e1.trans s2
  have hb2 := hb1.ext s2
  rw [← arr_start hn] at hb2
  have HB3 : Hid (Box (w2.setCell ⟨W0.heap.size, m, none⟩ (.bool true)) W0.heap.size (arr ((List.replicate ds.length false).set m true)) 122) := by
    have := hb2.set m (.bool true)
    rwa [arr_set (by simpa using hmn)] at this
  have e3 : Ext W0 (w2.setCell ⟨W0.heap.size, m, none⟩ (.bool true)) := e2.setCell (p := ⟨W0.heap.size, m, none⟩) (Nat.le_refl _) _
  have hu : _ = some (Value.bool false) := (hb2.cell m).trans ((arr_get (by simpa using hmn)).trans (by simp))
  have hf := hb2.free m
  clear hb1 hb2 e1 e2 s2
  go_wp2_with fail
  refine (CR.out _).mono ?_; rintro _ w4 ⟨rfl, s4⟩
  have e4 := e3.trans s4
  have HB4 := Lib.hid (HB3.out.ext s4)
  clear HB3 e3 s4 hu hf
  go_wp2
  go_loopw [4] (fun i wr => ∃ (q : Nat) (cs : List Bool), q ≤ ds.length ∧ i = .int .i64 ((q : Int) - 1) ∧ Hid (PossSt ds q cs) ∧ Hid (Box wr W0.heap.size (arr cs) 122) ∧ Ext W0 wr) (fun i _ => (intOf i + 1).toNat)
  case atStart => exact ⟨m + 1, _, by omega, by go_num, P0, HB4, e4⟩
  case round =>
    clear P0 HB4 e4
    obtain ⟨q, cs, hq, rfl, hp, hb, he⟩ := hrel
    rcases Nat.eq_zero_or_pos q with rfl | hq0
    · have HF := Lib.hid hp.out.done
      have hlen := hp.out.len
      have hdl := hd.len
      clear hp CR
      have OE := OwnL.empty (f := vint) (e := 3) (Ext.refl wr)
      have HOE := Lib.hid OE; clear OE
      have x0 := Ext_alloc (.cells #[] 3) (Ext.refl wr)
      have e0 := he.trans x0
      obtain ⟨W2, rfl⟩ : ∃ W2, W2 = wr := ⟨_, rfl⟩
      go_wp2
      go_loopw [8, 54] (fun t ix wq => ∃ k : Nat, k ≤ ds.length ∧ ix = .int .i64 k ∧ Hid (OwnL vint 3 W2 wq t ((entriesUpTo cs k).map fun (i : Nat) => (i : Int))) ∧ Ext W2 wq) (fun _ ix _ => ds.length - (intOf ix).toNat)
      case atStart => exact ⟨0, by omega, rfl, by simpa [entriesUpTo] using HOE, x0⟩
      case round =>
        clear HOE e0 x0
        obtain ⟨k, hk, rfl, ho, hx⟩ := hrel
        have e1 := he.trans hx
        by_cases hlt : k < ds.length
        · have hcm : (arr cs)[k]? = some (.bool cs[k]) := arr_get (by omega)
          have hz : cs.getD k false = cs[k] := by simp [hlen, hlt]
          have HS := Lib.hid (entriesUpTo_succ cs k)
          rw [hz] at HS
          have hll : (entriesUpTo cs k).length ≤ k := by unfold entriesUpTo; have := List.length_filter_le (fun i => cs.getD i false) (List.range k); simpa using this
          have ci := ((hb.out.ext hx).cell k).trans hcm
          have hk24 : k < 24 := by omega
          generalize cs[k] = z at *
          generalize entriesUpTo cs k = E at *
          obtain ⟨E', hE'⟩ : ∃ E', entriesUpTo cs (k + 1) = E' := ⟨_, rfl⟩
          rw [hE'] at HS
          have HEE := Lib.hid hE'; clear hE'
          have HB : Hid (((E.map fun (i : Nat) => (i : Int)).length + [(k : Int)].length) * 8 ≤ 140737488355328) := by show _ ≤ _; simp; omega
          cases z
          · have HE : Hid (E' = E) := HS.out
            have HO := Lib.hid ho.out
            rw [← HE.out, ← HEE.out] at HO
            go_wp2
            go_roundw
            case rel => exact ⟨k + 1, by omega, by go_num, HO, hx⟩
            case measure => simp [intOf]; omega
          · have HE : Hid ((E.map fun (i : Nat) => (i : Int)) ++ [(k : Int)] = E'.map fun (i : Nat) => (i : Int)) := by show _ = _; rw [HS.out]; simp
            go_wp2_with (first
              | (at_builtin; go_must (refine wpList_appN rfl (.tmp 60) (.tmp 62) _ rfl E_int (by omega) W2 _ vint (fun _ => rfl) _ rfl _ _ rfl (E.map fun (i : Nat) => (i : Int)) [(k : Int)] _ rfl ho.out hx rfl HB.out ?_); intro v1 w5 ho1 he1; rw [HE.out, ← HEE.out] at ho1))
            have H1 := Lib.hid ho1; clear ho1
            go_roundw
            case rel => exact ⟨_, _, _, ⟨k + 1, by omega, by go_num, H1⟩, rfl, rfl, rfl⟩
            case measure => simp [intOf]; omega
        · have HE : Hid ((entriesUpTo cs k).map (fun (i : Nat) => (i : Int)) = entriesI ds) := by
            show _ = _
            unfold entriesI
            rw [entries_eq, HF.out]
            congr 1
            rw [show k = ds.length by omega]
          go_wp2
          go_ret
          refine ⟨_, rfl, ?_, (eb.trans he).trans hx⟩
          rw [← HE.out]
          exact ho.out.down (Nat.le_trans eb.size he.size)
    · obtain ⟨i, rfl⟩ : ∃ i, q = i + 1 := ⟨q - 1, by omega⟩
      have hi : i < ds.length := by omega
      have hlen := hp.out.len
      have HN := Lib.hid (fun h => hp.out.no (m := i) h)
      have HY := Lib.hid (fun h => hp.out.all (m := i) hi h)
      have HKi : Hid (∀ x ∈ kidsOf ds[i], 0 ≤ x ∧ x < (i : Int)) := fun x hx => by
        obtain ⟨j, hj, rfl⟩ := List.getElem_of_mem (kidsOf_mem hx)
        exact HK.out i hi j hj
      have HP := Lib.hid (kids_pos hv i hi)
      obtain ⟨ba, oa, Ab, cb, An, cn, At, ct, Ak, ck, rfl, hba, hSa, hRa⟩ := hd.at i hi
      have hki := hSa.k.ext eb
      clear hp hq0 hmn
      generalize ds[i] = r at *
      obtain ⟨l0, l1, l2, l3, l4, l5, l6, l7⟩ := hRa.ext eb
      clear hRa hSa l0 l2 l3 l4 l5 l6
      have hcm : (arr cs)[i]? = some (.bool cs[i]) := arr_get (by omega)
      have hz : cs.getD i false = cs[i] := by simp [hlen, hi]
      rw [hz] at HN HY
      generalize cs[i] = z at *
      clear hz
      have ci := (hb.out.cell i).trans hcm
      rw [show ((i + 1 : Nat) : Int) - 1 = (i : Int) by omega]
      have hkl := hki.len
      cases z
      · have HE := Lib.hid (HN.out rfl); clear HN HY
        go_wp2
        go_roundw
        case rel => exact ⟨i, cs, by omega, rfl, HE, hb, he⟩
        case measure => simp [intOf]
      · have HE := Lib.hid (HY.out rfl); clear HN HY
        by_cases hsel : r.kind = 4 ∨ r.kind = 5 ∨ r.kind = 7
        · have hpos := HP.out hsel
          have HL : Hid (kidsOf r = r.kids.drop 1) := if_pos hsel
          obtain ⟨bk, ok, rfl, hbk, hck⟩ := hki.at 0 hpos
          have hck1 : Rd0 vint W0 (some ⟨bk, ok + 1, none⟩) (kidsOf r) (ck - 1) := by
            rw [HL.out]
            have hc := hki.cap
            refine ⟨by simp; omega, by simp; omega, fun hp => ?_⟩
            obtain ⟨b', o', h1, h2, h3⟩ := hki.2.2 hpos
            injection h1 with h1; injection h1 with h1 h1'; subst h1; subst h1'
            refine ⟨bk, ok + 1, rfl, h2, fun w' e j hj => ?_⟩
            have hj' : 1 + j < r.kids.length := by simp at hj; omega
            have := h3 w' e (1 + j) hj'
            rw [show ok + 1 + j = ok + (1 + j) by omega, this]
            simp only [List.getElem_drop]
          have hLl : (kidsOf r).length = r.kids.length - 1 := by rw [HL.out]; simp
          have hLi : ((r.kids.length : Int) - 1) = ((kidsOf r).length : Int) := by omega
          have hnil : ck = 1 → kidsOf r = [] := fun h => List.eq_nil_of_length_eq_zero (by have := hki.cap; omega)
          have hKi' := HKi.out
          clear hck
          generalize kidsOf r = L at *
          clear HL HKi HP
          rcases hsel with h4 | h4 | h4
          · have k4 : (r.kind == 4) = true := by simpa using h4
            clear h4
            by_cases hc1 : ck = 1
            · have hL0 : r.kids.length - 1 = 0 := by have := hki.cap; omega
              obtain rfl := hnil hc1
              go_wp2
              go_loopw [43] (fun kk wq => kk = .int .i64 0 ∧ wq = wr) (fun _ _ => 0)
              case atStart => exact ⟨rfl, rfl⟩
              case round =>
                obtain ⟨rfl, rfl⟩ := hrel
                go_wp2
                go_roundw
                case rel => exact ⟨i, cs, by omega, rfl, HE, hb, he⟩
                case measure => simp [intOf]
            · go_wp2
              rw [← hLl]
              go_loopw [43] (fun kk wq => ∃ k : Nat, k ≤ L.length ∧ kk = .int .i64 k ∧ Hid (Box wq W0.heap.size (arr (setAll cs (L.take k))) 122) ∧ Ext W0 wq) (fun kk _ => L.length - (intOf kk).toNat)
              case atStart => exact ⟨0, by omega, rfl, hb, he⟩
              case round =>
                clear hb he ci
                obtain ⟨k, hk, rfl, hb, he⟩ := hrel
                by_cases hlt : k < L.length
                · obtain ⟨b', o', hA, hbk', hck⟩ := hck1.at k hlt
                  injection hA with hA; injection hA with hA hA'; subst hA; subst hA'
                  have hkk := hKi' _ (List.getElem_mem hlt)
                  have HT : Hid ((setAll cs (L.take k)).set (L[k]).toNat true = setAll cs (L.take (k + 1))) := by show _ = _; rw [List.take_succ_eq_append_getElem hlt, setAll_snoc]
                  have hcl : (setAll cs (L.take k)).length = ds.length := by rw [setAll_len]; exact hlen
                  have d1 : decide ((k : Int) < (L.length : Int)) = true := by simp; omega
                  generalize L[k] = x at *
                  obtain ⟨x, rfl⟩ : ∃ y : Nat, x = (y : Int) := ⟨x.toNat, by omega⟩
                  have hx : x < ds.length := by omega
                  have hx24 : x < 24 := by omega
                  rw [Int.toNat_natCast] at HT
                  have hu : _ = some (Value.bool _) := (hb.out.cell x).trans (arr_get (by rw [hcl]; exact hx))
                  have hf := hb.out.free x
                  have HB' : Hid (Box (wr.setCell ⟨W0.heap.size, x, none⟩ (.bool true)) W0.heap.size (arr (setAll cs (L.take (k + 1)))) 122) := by
                    have := hb.out.set x (.bool true)
                    rw [arr_set (by rw [hcl]; exact hx), HT.out] at this
                    exact this
                  have HE' : Hid (Ext W0 (wr.setCell ⟨W0.heap.size, x, none⟩ (.bool true))) := he.setCell (p := ⟨W0.heap.size, x, none⟩) (Nat.le_refl _) _
                  clear HT hkk
                  go_wp2
                  go_roundw
                  case rel => exact ⟨k + 1, by omega, by go_num, HB'.out, HE'.out⟩
                  case measure => simp [intOf]; omega
                · have HE2 : Hid (PossSt ds i (setAll cs (L.take k))) := by show PossSt _ _ _; rw [List.take_of_length_le (by omega)]; exact HE.out
                  have d1 : decide ((k : Int) < (L.length : Int)) = false := decide_eq_false (by omega)
                  clear HE
                  go_wp2
                  go_roundw
                  case rel => exact ⟨i, _, by omega, rfl, HE2, hb, he⟩
                  case measure => simp [intOf]
          · have k4 : (r.kind == 4) = false := by rw [h4]; rfl
            have k5 : (r.kind == 5) = true := by simpa using h4
            clear h4
            by_cases hc1 : ck = 1
            · have hL0 : r.kids.length - 1 = 0 := by have := hki.cap; omega
              obtain rfl := hnil hc1
              go_wp2
              go_loopw [43] (fun kk wq => kk = .int .i64 0 ∧ wq = wr) (fun _ _ => 0)
              case atStart => exact ⟨rfl, rfl⟩
              case round =>
                obtain ⟨rfl, rfl⟩ := hrel
                go_wp2
                go_roundw
                case rel => exact ⟨i, cs, by omega, rfl, HE, hb, he⟩
                case measure => simp [intOf]
            · go_wp2
              rw [← hLl]
              go_loopw [43] (fun kk wq => ∃ k : Nat, k ≤ L.length ∧ kk = .int .i64 k ∧ Hid (Box wq W0.heap.size (arr (setAll cs (L.take k))) 122) ∧ Ext W0 wq) (fun kk _ => L.length - (intOf kk).toNat)
              case atStart => exact ⟨0, by omega, rfl, hb, he⟩
              case round =>
                clear hb he ci
                obtain ⟨k, hk, rfl, hb, he⟩ := hrel
                by_cases hlt : k < L.length
                · obtain ⟨b', o', hA, hbk', hck⟩ := hck1.at k hlt
                  injection hA with hA; injection hA with hA hA'; subst hA; subst hA'
                  have hkk := hKi' _ (List.getElem_mem hlt)
                  have HT : Hid ((setAll cs (L.take k)).set (L[k]).toNat true = setAll cs (L.take (k + 1))) := by show _ = _; rw [List.take_succ_eq_append_getElem hlt, setAll_snoc]
                  have hcl : (setAll cs (L.take k)).length = ds.length := by rw [setAll_len]; exact hlen
                  have d1 : decide ((k : Int) < (L.length : Int)) = true := by simp; omega
                  generalize L[k] = x at *
                  obtain ⟨x, rfl⟩ : ∃ y : Nat, x = (y : Int) := ⟨x.toNat, by omega⟩
                  have hx : x < ds.length := by omega
                  have hx24 : x < 24 := by omega
                  rw [Int.toNat_natCast] at HT
                  have hu : _ = some (Value.bool _) := (hb.out.cell x).trans (arr_get (by rw [hcl]; exact hx))
                  have hf := hb.out.free x
                  have HB' : Hid (Box (wr.setCell ⟨W0.heap.size, x, none⟩ (.bool true)) W0.heap.size (arr (setAll cs (L.take (k + 1)))) 122) := by
                    have := hb.out.set x (.bool true)
                    rw [arr_set (by rw [hcl]; exact hx), HT.out] at this
                    exact this
                  have HE' : Hid (Ext W0 (wr.setCell ⟨W0.heap.size, x, none⟩ (.bool true))) := he.setCell (p := ⟨W0.heap.size, x, none⟩) (Nat.le_refl _) _
                  clear HT hkk
                  go_wp2
                  go_roundw
                  case rel => exact ⟨k + 1, by omega, by go_num, HB'.out, HE'.out⟩
                  case measure => simp [intOf]; omega
                · have HE2 : Hid (PossSt ds i (setAll cs (L.take k))) := by show PossSt _ _ _; rw [List.take_of_length_le (by omega)]; exact HE.out
                  have d1 : decide ((k : Int) < (L.length : Int)) = false := decide_eq_false (by omega)
                  clear HE
                  go_wp2
                  go_roundw
                  case rel => exact ⟨i, _, by omega, rfl, HE2, hb, he⟩
                  case measure => simp [intOf]
          · have k4 : (r.kind == 4) = false := by rw [h4]; rfl
            have k5 : (r.kind == 5) = false := by rw [h4]; rfl
            have k7 : (r.kind == 7) = true := by simpa using h4
            clear h4
            by_cases hc1 : ck = 1
            · have hL0 : r.kids.length - 1 = 0 := by have := hki.cap; omega
              obtain rfl := hnil hc1
              go_wp2
              go_loopw [43] (fun kk wq => kk = .int .i64 0 ∧ wq = wr) (fun _ _ => 0)
              case atStart => exact ⟨rfl, rfl⟩
              case round =>
                obtain ⟨rfl, rfl⟩ := hrel
                go_wp2
                go_roundw
                case rel => exact ⟨i, cs, by omega, rfl, HE, hb, he⟩
                case measure => simp [intOf]
            · go_wp2
              rw [← hLl]
              go_loopw [43] (fun kk wq => ∃ k : Nat, k ≤ L.length ∧ kk = .int .i64 k ∧ Hid (Box wq W0.heap.size (arr (setAll cs (L.take k))) 122) ∧ Ext W0 wq) (fun kk _ => L.length - (intOf kk).toNat)
              case atStart => exact ⟨0, by omega, rfl, hb, he⟩
              case round =>
                clear hb he ci
                obtain ⟨k, hk, rfl, hb, he⟩ := hrel
                by_cases hlt : k < L.length
                · obtain ⟨b', o', hA, hbk', hck⟩ := hck1.at k hlt
                  injection hA with hA; injection hA with hA hA'; subst hA; subst hA'
                  have hkk := hKi' _ (List.getElem_mem hlt)
                  have HT : Hid ((setAll cs (L.take k)).set (L[k]).toNat true = setAll cs (L.take (k + 1))) := by show _ = _; rw [List.take_succ_eq_append_getElem hlt, setAll_snoc]
                  have hcl : (setAll cs (L.take k)).length = ds.length := by rw [setAll_len]; exact hlen
                  have d1 : decide ((k : Int) < (L.length : Int)) = true := by simp; omega
                  generalize L[k] = x at *
                  obtain ⟨x, rfl⟩ : ∃ y : Nat, x = (y : Int) := ⟨x.toNat, by omega⟩
                  have hx : x < ds.length := by omega
                  have hx24 : x < 24 := by omega
                  rw [Int.toNat_natCast] at HT
                  have hu : _ = some (Value.bool _) := (hb.out.cell x).trans (arr_get (by rw [hcl]; exact hx))
                  have hf := hb.out.free x
                  have HB' : Hid (Box (wr.setCell ⟨W0.heap.size, x, none⟩ (.bool true)) W0.heap.size (arr (setAll cs (L.take (k + 1)))) 122) := by
                    have := hb.out.set x (.bool true)
                    rw [arr_set (by rw [hcl]; exact hx), HT.out] at this
                    exact this
                  have HE' : Hid (Ext W0 (wr.setCell ⟨W0.heap.size, x, none⟩ (.bool true))) := he.setCell (p := ⟨W0.heap.size, x, none⟩) (Nat.le_refl _) _
                  clear HT hkk
                  go_wp2
                  go_roundw
                  case rel => exact ⟨k + 1, by omega, by go_num, HB'.out, HE'.out⟩
                  case measure => simp [intOf]; omega
                · have HE2 : Hid (PossSt ds i (setAll cs (L.take k))) := by show PossSt _ _ _; rw [List.take_of_length_le (by omega)]; exact HE.out
                  have d1 : decide ((k : Int) < (L.length : Int)) = false := decide_eq_false (by omega)
                  clear HE
                  go_wp2
                  go_roundw
                  case rel => exact ⟨i, _, by omega, rfl, HE2, hb, he⟩
                  case measure => simp [intOf]
        · have HL : Hid (kidsOf r = r.kids) := if_neg hsel
          have hck1 : Rd0 vint W0 Ak (kidsOf r) ck := by rw [HL.out]; exact hki
          have hLl : (kidsOf r).length = r.kids.length := by rw [HL.out]
          have hKi' := HKi.out
          have k4 : (r.kind == 4) = false := by simp; omega
          have k5 : (r.kind == 5) = false := by simp; omega
          have k7 : (r.kind == 7) = false := by simp; omega
          generalize kidsOf r = L at *
          clear HL HKi HP hsel
          go_wp2
          rw [← hLl]
          go_loopw [43] (fun kk wq => ∃ k : Nat, k ≤ L.length ∧ kk = .int .i64 k ∧ Hid (Box wq W0.heap.size (arr (setAll cs (L.take k))) 122) ∧ Ext W0 wq) (fun kk _ => L.length - (intOf kk).toNat)
          case atStart => exact ⟨0, by omega, rfl, hb, he⟩
          case round =>
            clear hb he ci
            obtain ⟨k, hk, rfl, hb, he⟩ := hrel
            by_cases hlt : k < L.length
            · obtain ⟨bk, ok, rfl, hbk', hck⟩ := hck1.at k hlt
              have hkk := hKi' _ (List.getElem_mem hlt)
              have HT : Hid ((setAll cs (L.take k)).set (L[k]).toNat true = setAll cs (L.take (k + 1))) := by show _ = _; rw [List.take_succ_eq_append_getElem hlt, setAll_snoc]
              have hcl : (setAll cs (L.take k)).length = ds.length := by rw [setAll_len]; exact hlen
              have d1 : decide ((k : Int) < (L.length : Int)) = true := by simp; omega
              generalize L[k] = x at *
              obtain ⟨x, rfl⟩ : ∃ y : Nat, x = (y : Int) := ⟨x.toNat, by omega⟩
              have hx : x < ds.length := by omega
              have hx24 : x < 24 := by omega
              rw [Int.toNat_natCast] at HT
              have hu : _ = some (Value.bool _) := (hb.out.cell x).trans (arr_get (by rw [hcl]; exact hx))
              have hf := hb.out.free x
              have HB' : Hid (Box (wr.setCell ⟨W0.heap.size, x, none⟩ (.bool true)) W0.heap.size (arr (setAll cs (L.take (k + 1)))) 122) := by
                have := hb.out.set x (.bool true)
                rw [arr_set (by rw [hcl]; exact hx), HT.out] at this
                exact this
              have HE' : Hid (Ext W0 (wr.setCell ⟨W0.heap.size, x, none⟩ (.bool true))) := he.setCell (p := ⟨W0.heap.size, x, none⟩) (Nat.le_refl _) _
              clear HT hkk
              go_wp2
              go_roundw
              case rel => exact ⟨k + 1, by omega, by go_num, HB'.out, HE'.out⟩
              case measure => simp [intOf]; omega
            · have HE2 : Hid (PossSt ds i (setAll cs (L.take k))) := by show PossSt _ _ _; rw [List.take_of_length_le (by omega)]; exact HE.out
              have d1 : decide ((k : Int) < (L.length : Int)) = false := decide_eq_false (by omega)
              clear HE
              go_wp2
              go_roundw
              case rel => exact ⟨i, _, by omega, rfl, HE2, hb, he⟩
              case measure => simp [intOf]
end Go.Proofs.Ytmnenemnplpigaa
