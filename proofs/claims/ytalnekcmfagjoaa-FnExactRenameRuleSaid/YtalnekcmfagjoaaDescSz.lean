/- The laws' sizes of descriptions and registries. -/
import Derived.Test.YtalnekcmfagjoaaDesc
import Derived.Test.YtalnekcmfagjoaaLog
namespace Go.Proofs.Ytalnekcmfagjoaa
open Go.RowKit Go.Sort

theorem szN_spec (n : Nat) (left : Int) : (left - n < 0 ∧ szN n left = -1) ∨ (0 ≤ left - n ∧ szN n left = left - n) := by
  unfold szN; split
  · exact .inl ⟨by assumption, rfl⟩
  · exact .inr ⟨by omega, rfl⟩
set_option maxHeartbeats 1000000 in
theorem szStringS_c (A : Option Addr) (l : List ByteArray) (c : Nat) (left : Int) (w : World) (h : Rd0 vstr w A l c) (hw : ∀ s ∈ l, s.size ≤ 9223372036854775807) (h0 : 0 ≤ left) (h1 : left ≤ 1048576) :
    Gives Try.prog 90 #[.slice A l.length c, .int .i64 left] w (.int .i64 (szN (l.length + szStrs l) left)) := by
  have hl := h.len
  have S := szN_spec (l.length + szStrs l) left
  obtain ⟨T, hT⟩ : ∃ T, szN (l.length + szStrs l) left = T := ⟨_, rfl⟩
  rw [hT] at S ⊢
  have HS := Lib.hid S
  clear S hT
  by_cases hd : left - (l.length : Int) < 0
  · obtain rfl : T = -1 := by have := HS.out; omega
    go_enter Try.func90, Try.ntmps90
    go_wp2
    go_ret
    exact ⟨rfl, Ext.refl _⟩
  · go_enter Try.func90, Try.ntmps90
    go_wp2
    go_loopw [1, 5] (fun t i wr => ∃ (k : Nat) (z : Int), k ≤ l.length ∧ i = .int .i64 k ∧ t = .int .i64 z ∧ 0 ≤ z ∧ z ≤ 1048576 ∧ Hid (z = left - l.length - szStrs (l.take k)) ∧ Ext w wr) (fun _ i _ => l.length - (intOf i).toNat)
    case atStart => exact ⟨0, _, by omega, rfl, rfl, by omega, by omega, by simp [Hid, szStrs], Ext.refl _⟩
    case round =>
      obtain ⟨k, z, hk, rfl, rfl, hz0, hz1, hz, he⟩ := hrel
      by_cases hlt : k < l.length
      · obtain ⟨b, off, rfl, hb, hc⟩ := h.at k hlt
        have hs := hw l[k] (List.getElem_mem hlt)
        have HT := Lib.hid (szStrs_take l k hlt)
        have HL := Lib.hid (szStrs_le l (k+1))
        by_cases hneg : z - (l[k].size : Int) < 0
        · obtain rfl : T = -1 := by have := HS.out; have := HT.out; have := HL.out; have := hz.out; omega
          clear h
          go_wp2
          go_ret
          exact ⟨rfl, he⟩
        · clear h
          go_wp2
          go_roundw
          case rel => exact ⟨k+1, _, by omega, by go_num, rfl, by omega, by omega, by have := HT.out; have := hz.out; show _ = _; omega, he⟩
          case measure => simp [intOf]; omega
      · have hk' : k = l.length := by omega
        have HZ : Hid (T = z) := by
          have := HS.out; have h2 := hz.out; rw [List.take_of_length_le (by omega)] at h2; show _ = _; omega
        go_wp2
        go_ret
        exact ⟨ret_i64 HZ.out.symm, he⟩
set_option maxRecDepth 100000 in
set_option maxHeartbeats 2000000 in
theorem szRule_c (r : DRule) (Ab : Option Addr) (cb : Nat) (An : Option Addr) (cn : Nat) (At : Option Addr) (ct : Nat) (Ak : Option Addr) (ck : Nat) (left : Int) (w : World) (h : RdS w r Ab cb An cn At ct Ak ck) (hw : WfR r) (h0 : 0 ≤ left) (h1 : left ≤ 1048576) :
    Gives Try.prog 61 #[vrule r (.slice Ab r.bytes.length cb) (.slice An r.names.length cn) (.slice At r.tags.length ct) (.slice Ak r.kids.length ck), .int .i64 left] w (.int .i64 (szN (szRl r) left)) := by
  obtain ⟨hb, hn, ht, hk⟩ := h
  have hwn := hw.nm
  have S := szN_spec (szRl r) left
  obtain ⟨T, hT⟩ : ∃ T, szN (szRl r) left = T := ⟨_, rfl⟩
  rw [hT] at S ⊢
  unfold szRl at S
  have C1 := Lib.hid (fun left w h h0 h1 => szByteS_c Ab r.bytes cb left w h h0 h1)
  have C2 := Lib.hid (fun left w h h0 h1 => szStringS_c An r.names cn left w h hw.names h0 h1)
  have C3 := Lib.hid (fun left w h h0 h1 => szIntS_c At r.tags ct left w h h0 h1)
  have C4 := Lib.hid (fun left w h h0 h1 => szIntS_c Ak r.kids ck left w h h0 h1)
  have HS := Lib.hid S
  clear S hT hw
  have eb := Ext_alloc (.cells #[.string r.nm, .int .i64 r.kind, .int .i64 r.size, .bool r.little, .slice Ab r.bytes.length cb, .slice An r.names.length cn, .slice At r.tags.length ct, .slice Ak r.kids.length ck] 90) (Ext.refl w)
  unfold vrule
  by_cases q1 : left - (r.nm.size : Int) < 0
  · obtain rfl : T = -1 := by have := HS.out; omega
    go_enter Try.func61, Try.ntmps61
    go_wp2
    go_ret
    exact ⟨rfl, eb⟩
  go_enter Try.func61, Try.ntmps61
  go_wp2_with fail
  refine (C1.out _ _ (hb.ext eb) (by omega) (by omega)).mono ?_; rintro _ w1 ⟨rfl, he1⟩
  have s1 := szN_spec r.bytes.length (left - r.nm.size)
  generalize szN r.bytes.length (left - r.nm.size) = z1 at *
  by_cases q2 : z1 < 0
  · obtain rfl : T = -1 := by have := HS.out; omega
    clear s1
    go_wp2
    go_ret
    exact ⟨rfl, eb.trans he1⟩
  have S1 : Hid (z1 = left - r.nm.size - r.bytes.length) := by show _ = _; omega
  have z1a : z1 ≤ 1048576 := by omega
  clear s1
  have D1 := fun w' (e : Ext _ w') => boxed (he1.trans e)
  go_wp2_with fail
  refine (C2.out _ _ (hn.ext (eb.trans he1)) (by omega) (by omega)).mono ?_; rintro _ w2 ⟨rfl, he2⟩
  have s2 := szN_spec (r.names.length + szStrs r.names) z1
  generalize szN (r.names.length + szStrs r.names) z1 = z2 at *
  have e2 := he1.trans he2
  by_cases q3 : z2 < 0
  · obtain rfl : T = -1 := by have := HS.out; have := S1.out; omega
    clear s2
    go_wp2
    go_ret
    exact ⟨rfl, eb.trans e2⟩
  have S2 : Hid (z2 = left - r.nm.size - r.bytes.length - (r.names.length + szStrs r.names)) := by have := S1.out; show _ = _; omega
  have z2a : z2 ≤ 1048576 := by omega
  clear s2 D1
  have D2 := fun w' (e : Ext _ w') => boxed (e2.trans e)
  go_wp2_with fail
  refine (C3.out _ _ (ht.ext (eb.trans e2)) (by omega) (by omega)).mono ?_; rintro _ w3 ⟨rfl, he3⟩
  have s3 := szN_spec r.tags.length z2
  generalize szN r.tags.length z2 = z3 at *
  have e3 := e2.trans he3
  by_cases q4 : z3 < 0
  · obtain rfl : T = -1 := by have := HS.out; have := S2.out; omega
    clear s3
    go_wp2
    go_ret
    exact ⟨rfl, eb.trans e3⟩
  have S3 : Hid (z3 = left - r.nm.size - r.bytes.length - (r.names.length + szStrs r.names) - r.tags.length) := by have := S2.out; show _ = _; omega
  have z3a : z3 ≤ 1048576 := by omega
  clear s3 D2
  have D3 := fun w' (e : Ext _ w') => boxed (e3.trans e)
  go_wp2_with fail
  refine (C4.out _ _ (hk.ext (eb.trans e3)) (by omega) (by omega)).mono ?_; rintro _ w4 ⟨rfl, he4⟩
  have s4 := szN_spec r.kids.length z3
  generalize szN r.kids.length z3 = z4 at *
  have HT : Hid (z4 = T) := by have := HS.out; have := S3.out; show _ = _; omega
  clear s4
  by_cases q5 : z4 < 0
  · obtain rfl : T = -1 := by have := HS.out; have := HT.out; omega
    go_wp2
    go_ret
    exact ⟨rfl, eb.trans (e3.trans he4)⟩
  go_wp2
  go_ret
  exact ⟨ret_i64 HT.out, eb.trans (e3.trans he4)⟩
set_option maxRecDepth 100000 in
set_option maxHeartbeats 2000000 in
theorem szRuleS_c (A : Option Addr) (ds : List DRule) (c : Nat) (left : Int) (w : World) (h : RdD w A ds c) (hw : WfD ds) (h0 : 0 ≤ left) (h1 : left ≤ 1048576) :
    Gives Try.prog 30 #[.slice A ds.length c, .int .i64 left] w (.int .i64 (szN (szD ds) left)) := by
  have hl := h.len
  have S := szN_spec (szD ds) left
  obtain ⟨T, hT⟩ : ∃ T, szN (szD ds) left = T := ⟨_, rfl⟩
  rw [hT] at S ⊢
  unfold szD at S
  have HS := Lib.hid S
  clear S hT
  by_cases hd : left - (ds.length : Int) < 0
  · obtain rfl : T = -1 := by have := HS.out; omega
    go_enter Try.func30, Try.ntmps30
    go_wp2
    go_ret
    exact ⟨rfl, Ext.refl _⟩
  · go_enter Try.func30, Try.ntmps30
    go_wp2
    go_loopw [1, 5] (fun t i wr => ∃ (k : Nat) (z : Int), k ≤ ds.length ∧ i = .int .i64 k ∧ t = .int .i64 z ∧ 0 ≤ z ∧ z ≤ 1048576 ∧ Hid (z = left - ds.length - ((ds.take k).map szRl).sum) ∧ Ext w wr) (fun _ i _ => ds.length - (intOf i).toNat)
    case atStart => exact ⟨0, _, by omega, rfl, rfl, by omega, by omega, by simp [Hid], Ext.refl _⟩
    case round =>
      obtain ⟨k, z, hk, rfl, rfl, hz0, hz1, hz, he⟩ := hrel
      by_cases hlt : k < ds.length
      · obtain ⟨b, off, Ab, cb, An, cn, At, ct, Ak, ck, rfl, hb, hs, hr⟩ := h.at k hlt
        have HT := Lib.hid (sum_take szRl ds k hlt)
        have HL := Lib.hid (sum_split szRl ds (k+1))
        have hwk := hw _ (List.getElem_mem hlt)
        have s1 := szN_spec (szRl ds[k]) z
        generalize ds[k] = r at *
        have C := Lib.hid (fun w hs => szRule_c r Ab cb An cn At ct Ak ck z w hs hwk hz0 hz1)
        generalize szN (szRl r) z = z1 at *
        obtain ⟨k0, k1, k2, k3, k4, k5, k6, k7⟩ := hr
        have S1 := Lib.hid s1
        unfold vrule at C
        clear s1 h
        go_wp2_with fail
        refine (C.out _ (hs.ext he)).mono ?_; rintro _ w1 ⟨rfl, he1⟩
        by_cases q : z1 < 0
        · obtain rfl : T = -1 := by have := HS.out; have := HT.out; have := HL.out; have := hz.out; have := S1.out; omega
          go_wp2
          go_ret
          exact ⟨rfl, he.trans he1⟩
        · have hz1' : z1 ≤ 1048576 := by have := S1.out; omega
          go_wp2
          go_roundw
          case rel => exact ⟨k+1, _, by omega, by go_num, rfl, by omega, by omega, by have := HT.out; have := hz.out; have := S1.out; show _ = _; omega, he.trans he1⟩
          case measure => simp [intOf]; omega
      · have hk' : k = ds.length := by omega
        have HZ : Hid (T = z) := by
          have := HS.out; have h2 := hz.out; rw [List.take_of_length_le (by omega)] at h2; show _ = _; omega
        go_wp2
        go_ret
        exact ⟨ret_i64 HZ.out.symm, he⟩
set_option maxHeartbeats 400000 in
theorem szDescription_c (A : Option Addr) (ds : List DRule) (c : Nat) (left : Int) (w : World) (h : RdD w A ds c) (hw : WfD ds) (h0 : 0 ≤ left) (h1 : left ≤ 1048576) :
    Gives Try.prog 7 #[vdesc (.slice A ds.length c), .int .i64 left] w (.int .i64 (szN (szD ds) left)) := by
  have C := Lib.hid (fun w h => szRuleS_c A ds c left w h hw h0 h1)
  have hz := szN_lo (szD ds) left h1 h0
  generalize szN (szD ds) left = z at *
  unfold vdesc
  by_cases hd : z < 0
  · obtain rfl : z = -1 := by omega
    go_enter Try.func7, Try.ntmps7
    go_wp2_with fail
    refine (C.out _ (h.ext (Ext_alloc _ (Ext.refl _)))).mono ?_; rintro _ w1 ⟨rfl, he⟩
    go_wp2
    go_ret
    exact ⟨rfl, (Ext_alloc _ (Ext.refl w)).trans he⟩
  · go_enter Try.func7, Try.ntmps7
    go_wp2_with fail
    refine (C.out _ (h.ext (Ext_alloc _ (Ext.refl _)))).mono ?_; rintro _ w1 ⟨rfl, he⟩
    go_wp2
    go_ret
    exact ⟨rfl, (Ext_alloc _ (Ext.refl w)).trans he⟩
set_option maxRecDepth 100000 in
set_option maxHeartbeats 2000000 in
theorem szDescriptionS_c (A : Option Addr) (ds : List (List DRule)) (c : Nat) (left : Int) (w : World) (h : RdG w A ds c) (hw : WfG ds) (h0 : 0 ≤ left) (h1 : left ≤ 1048576) :
    Gives Try.prog 41 #[.slice A ds.length c, .int .i64 left] w (.int .i64 (szN (szG ds) left)) := by
  have hl := h.len
  have S := szN_spec (szG ds) left
  obtain ⟨T, hT⟩ : ∃ T, szN (szG ds) left = T := ⟨_, rfl⟩
  rw [hT] at S ⊢
  unfold szG at S
  have HS := Lib.hid S
  clear S hT
  by_cases hd : left - (ds.length : Int) < 0
  · obtain rfl : T = -1 := by have := HS.out; omega
    go_enter Try.func41, Try.ntmps41
    go_wp2
    go_ret
    exact ⟨rfl, Ext.refl _⟩
  · go_enter Try.func41, Try.ntmps41
    go_wp2
    go_loopw [1, 5] (fun t i wr => ∃ (k : Nat) (z : Int), k ≤ ds.length ∧ i = .int .i64 k ∧ t = .int .i64 z ∧ 0 ≤ z ∧ z ≤ 1048576 ∧ Hid (z = left - ds.length - ((ds.take k).map szD).sum) ∧ Ext w wr) (fun _ i _ => ds.length - (intOf i).toNat)
    case atStart => exact ⟨0, _, by omega, rfl, rfl, by omega, by omega, by simp [Hid], Ext.refl _⟩
    case round =>
      obtain ⟨k, z, hk, rfl, rfl, hz0, hz1, hz, he⟩ := hrel
      by_cases hlt : k < ds.length
      · obtain ⟨b, off, A', c', rfl, hb, hs, hr⟩ := h.at k hlt
        have HT := Lib.hid (sum_take szD ds k hlt)
        have HL := Lib.hid (sum_split szD ds (k+1))
        have hwk := hw _ (List.getElem_mem hlt)
        have s1 := szN_spec (szD ds[k]) z
        generalize ds[k] = r at *
        have C := Lib.hid (fun w hs => szDescription_c A' r c' z w hs hwk hz0 hz1)
        generalize szN (szD r) z = z1 at *
        have S1 := Lib.hid s1
        unfold vdesc at C
        clear s1 h
        go_wp2_with fail
        refine (C.out _ (hs.ext he)).mono ?_; rintro _ w1 ⟨rfl, he1⟩
        by_cases q : z1 < 0
        · obtain rfl : T = -1 := by have := HS.out; have := HT.out; have := HL.out; have := hz.out; have := S1.out; omega
          go_wp2
          go_ret
          exact ⟨rfl, he.trans he1⟩
        · have hz1' : z1 ≤ 1048576 := by have := S1.out; omega
          go_wp2
          go_roundw
          case rel => exact ⟨k+1, _, by omega, by go_num, rfl, by omega, by omega, by have := HT.out; have := hz.out; have := S1.out; show _ = _; omega, he.trans he1⟩
          case measure => simp [intOf]; omega
      · have hk' : k = ds.length := by omega
        have HZ : Hid (T = z) := by
          have := HS.out; have h2 := hz.out; rw [List.take_of_length_le (by omega)] at h2; show _ = _; omega
        go_wp2
        go_ret
        exact ⟨ret_i64 HZ.out.symm, he⟩
set_option maxHeartbeats 400000 in
theorem szRegistry_c (A : Option Addr) (ds : List (List DRule)) (c : Nat) (left : Int) (w : World) (h : RdG w A ds c) (hw : WfG ds) (h0 : 0 ≤ left) (h1 : left ≤ 1048576) :
    Gives Try.prog 14 #[vdesc (.slice A ds.length c), .int .i64 left] w (.int .i64 (szN (szG ds) left)) := by
  have C := Lib.hid (fun w h => szDescriptionS_c A ds c left w h hw h0 h1)
  have hz := szN_lo (szG ds) left h1 h0
  generalize szN (szG ds) left = z at *
  unfold vdesc
  by_cases hd : z < 0
  · obtain rfl : z = -1 := by omega
    go_enter Try.func14, Try.ntmps14
    go_wp2_with fail
    refine (C.out _ (h.ext (Ext_alloc _ (Ext.refl _)))).mono ?_; rintro _ w1 ⟨rfl, he⟩
    go_wp2
    go_ret
    exact ⟨rfl, (Ext_alloc _ (Ext.refl w)).trans he⟩
  · go_enter Try.func14, Try.ntmps14
    go_wp2_with fail
    refine (C.out _ (h.ext (Ext_alloc _ (Ext.refl _)))).mono ?_; rintro _ w1 ⟨rfl, he⟩
    go_wp2
    go_ret
    exact ⟨rfl, (Ext_alloc _ (Ext.refl w)).trans he⟩
end Go.Proofs.Ytalnekcmfagjoaa
