/- The drawn bytes of unpacking. -/
import Derived.Test.YtohejlknihleeaaLawRuns
import Derived.Test.YtohejlknihleeaaPack
import Derived.Test.YtohejlknihleeaaStoreLog
import Derived.Test.YtohejlknihleeaaPackLaw
import Derived.Test.YtohejlknihleeaaEncRec
namespace Go.Proofs.Ytohejlknihleeaa
open Go.RowKit Go.Sort

set_option maxHeartbeats 1000000 in
theorem l1IntLit_c (ns : List Int) (hns : 0 < ns.length) (hns2 : ns.length ≤ 256) (n : Nat) (hn : n = ns.length) (cs : Array Value) (hcs : cs = (ns.map vint).toArray) (wb w : World) (p : Nat) (A : Option Addr) (l : List UInt8) (c : Nat) (hA : Bs wb A l c) (hC : Cur wb w p A l c) :
    Calls Try.prog 85 #[.pointer (some ⟨p, 0, none⟩), .slice (some ⟨w.heap.size, 0, none⟩) n n] (w.alloc (.cells cs 3)) fun e w' => ∃ x ∈ ns, e = .returned (.int .i64 x) ∧ Cur wb w' p A l c ∧ w.grownBy w' (some p) := by
  subst hn; subst hcs
  have hC' := hC.ext (Ext_alloc (.cells (ns.map vint).toArray 3) (Ext.refl w))
  have hlt := hC.lt
  refine (l1Int_c (some ⟨w.heap.size, 0, none⟩) ns ns.length hns hns2 wb _ p A l c hA hC' ?_).mono ?_
  · intro w' hg i hi
    refine ⟨w.heap.size, 0, rfl, ?_⟩
    have h0 := boxed (Ext.refl (w.alloc (.cells (ns.map vint).toArray 3))) (0 + i)
    refine hg.cell (a := ⟨w.heap.size, 0 + i, none⟩) (h0.trans ?_) (by intro hh; injection hh with hh; simp at hh; omega)
    rw [Nat.zero_add]
    simp [vint, hi]
  · rintro e w' ⟨x, hx, he, hC1, hg⟩
    exact ⟨x, hx, he, hC1, (World.grownBy_alloc w _ _).trans hg⟩
set_option maxRecDepth 100000 in
set_option maxHeartbeats 4000000 in
theorem l1Bent_c (wb w : World) (p : Nat) (A : Option Addr) (l : List UInt8) (c : Nat) (hA : Bs wb A l c) (hC : Cur wb w p A l c) (B : Option Addr) (m : List UInt8) (cB : Nat) (hB : Bs w B m cB) (hm : m.length ≤ 1000) :
    Calls Try.prog 84 #[.pointer (some ⟨p, 0, none⟩), .slice B m.length cB] w fun e w' => ∃ v m', m'.length ≤ 1001 ∧ e = .returned v ∧ OwnL vu8 5 wb w' v m' ∧ Ext wb w' := by
  have CBe := Lib.hid (fun n w h hn => l1Below_c n wb w p A l c hA h hn)
  have CIn := Lib.hid (fun w h => l1IntLit_c [0, 1, 128, 255] (by simp) (by simp) 4 rfl #[.int .i64 0, .int .i64 1, .int .i64 128, .int .i64 255] rfl wb w p A l c hA h)
  have HO : Hid (OwnL vu8 5 wb (w.alloc (.cells #[] 5)) (.slice (some ⟨w.heap.size, 0, none⟩) 0 0) []) := OwnL.empty hC.2.1
  have HS := Lib.hid (hB.src (Ext_alloc (.cells #[] 5) (Ext.refl w)))
  have HB : Hid ((([] : List UInt8).length + m.length) * 1 ≤ 140737488355328) := by show _ ≤ _; simp; omega
  have HE := Lib.hid (Ext_alloc (.cells #[] 5) hC.2.1)
  clear hB
  go_enter Try.func84, Try.ntmps84
  go_wp2_with (first
    | (at_builtin; refine wpList_appL rfl (.tmp 6) (.tmp 7) _ rfl E_u8 (by omega) wb _ vu8 (fun _ => rfl) _ rfl _ _ _ rfl [] m HO.out HE.out rfl HS.out HB.out ?_; intro v1 w1 ho1 he1 hv1 hg1))
  have hlt := hC.lt
  have hn1 : v1.ownBlock ≠ some p := by
    rcases hv1 with hv1 | hv1 <;> (rw [hv1]; intro hh; injection hh with hh; simp at hh; omega)
  have hC1 : Cur wb w1 p A l c := Cur.kept (hC.ext (Ext_alloc (.cells #[] 5) (Ext.refl w))) hg1 (by intro hh; injection hh with hh; simp at hh; omega) he1
  rw [List.nil_append] at ho1
  clear hv1 hg1 HS HB HE HO hC he1
  go_wp2_with fail
  refine (CBe.out 6 _ hC1 (by omega)).mono ?_; rintro _ w2 ⟨y, hy, rfl, hC2, hg2⟩
  have hy5 : y ≤ 5 := by unfold below at hy; rw [if_neg (by omega)] at hy; omega
  have ho2 := OwnL.moved ho1 hg2 hn1
  clear ho1 hC1 hg2 hy
  obtain ⟨A2, c2, rfl, r2⟩ := OwnL.rd ho2 (by omega)
  rcases (by omega : y = 0 ∨ y = 1 ∨ y = 2 ∨ 3 ≤ y) with rfl | rfl | rfl | h3
  · by_cases h0 : 0 < m.length
    · have hmi : (m.length : Int) ≤ 16777216 := by omega
      go_wp2_with fail
      refine (CBe.out m.length _ hC2 hmi).mono ?_; rintro _ w3 ⟨i, hi, rfl, hC3, hg3⟩
      have hi2 : i < m.length := by unfold below at hi; rw [if_neg (by omega)] at hi; omega
      have ho3 := OwnL.moved ho2 hg3 hn1
      clear ho2 hC2 hg3 hi r2
      go_wp2_with fail
      refine (CBe.out 256 _ hC3 (by omega)).mono ?_; rintro _ w4 ⟨x, hx, rfl, hC4, hg4⟩
      have hx2 : x < 256 := by unfold below at hx; rw [if_neg (by omega)] at hx; omega
      have ho4 := OwnL.moved ho3 hg4 hn1
      clear ho3 hC3 hg4 hx
      obtain ⟨g, cap, hv, _, _⟩ := World.ownsRow.form ho4 h0
      injection hv with hv1 _ hv3
      subst hv1; subst hv3
      obtain ⟨⟨u0, hu⟩, hf⟩ := Own.slot ho4 i (by simp; omega)
      obtain ⟨ho', he'⟩ := Own.store ho4 hC4.2.1 i (.int .u8 (x : Int))
      have hset : (m.map vu8).set i (.int .u8 (x : Int)) = (m.set i (UInt8.ofNat x)).map vu8 := by
        have : (UInt8.ofNat x).toNat = x := by rw [UInt8.toNat_ofNat']; omega
        rw [List.map_set]; simp [vu8, this]
      rw [hset] at ho'
      have HO' : Hid (OwnL vu8 5 wb (w4.setCell ⟨g, i, none⟩ (.int .u8 (x : Int))) (.slice (some ⟨g, 0, none⟩) m.length c2) (m.set i (UInt8.ofNat x))) := by
        show OwnL _ _ _ _ _ _; unfold OwnL; rw [List.length_set]; exact ho'
      have HE' := Lib.hid he'
      clear ho' he' ho4 hC4 hset
      go_wp2_with fail
      go_ret
      exact ⟨_, m.set i (UInt8.ofNat x), by simp; omega, rfl, HO'.out, HE'.out⟩
    · go_wp2_with fail
      go_ret
      exact ⟨_, m, by omega, rfl, ho2, hC2.2.1⟩
  · have hmi : (m.length : Int) + 1 ≤ 16777216 := by omega
    go_wp2_with fail
    refine (CBe.out ((m.length : Int) + 1) _ hC2 hmi).mono ?_; rintro _ w3 ⟨i, hi, rfl, hC3, hg3⟩
    have hi2 : i ≤ m.length := by unfold below at hi; rw [if_neg (by omega)] at hi; omega
    have hcap := r2.cap
    have ho3 := OwnL.moved ho2 hg3 hn1
    clear ho2 hC2 hg3 hi r2
    go_wp2_with fail
    go_ret
    exact ⟨_, m.take i, by simp; omega, rfl, OwnL.take ho3 hi2, hC3.2.1⟩
  · go_wp2_with fail
    refine (CIn.out _ hC2).mono ?_; rintro _ w3 ⟨x, hx, rfl, hC3, hg3⟩
    have ho3 := OwnL.moved ho2 hg3 hn1
    have hx2 : 0 ≤ x ∧ x < 256 := by simp at hx; omega
    obtain ⟨x, rfl⟩ : ∃ k : Nat, x = (k : Int) := ⟨x.toNat, by omega⟩
    clear ho2 hC2 hg3 hx r2
    have HB : Hid ((m.length + [UInt8.ofNat x].length) * 1 ≤ 140737488355328) := by show _ ≤ _; simp; omega
    have HCS : Hid (#[Value.int .u8 (x : Int)] = ([UInt8.ofNat x].map vu8).toArray) := by
      show _ = _
      have : (UInt8.ofNat x).toNat = x := by rw [UInt8.toNat_ofNat']; omega
      simp [vu8, this]
    go_wp2_with (first
      | (at_builtin; refine wpList_appC rfl (.tmp 36) (.tmp 41) _ rfl E_u8 (by omega) wb _ vu8 (fun _ => rfl) _ rfl _ _ rfl m [UInt8.ofNat x] _ HCS.out ho3 hC3.2.1 rfl HB.out p hC3.lt hn1 ?_; intro v4 w4 ho4 he4 hn4 hg4))
    go_ret
    exact ⟨_, m ++ [UInt8.ofNat x], by simp; omega, rfl, ho4, he4⟩
  · go_wp2_with fail
    go_ret
    exact ⟨_, m, by omega, rfl, ho2, hC2.2.1⟩
set_option maxRecDepth 100000 in
set_option maxHeartbeats 4000000 in
theorem drawUnpack_c (A : Option Addr) (l : List UInt8) (c : Nat) (w : World) (hA : Bs w A l c) :
    Calls Try.prog 31 #[.slice A l.length c] w fun e w' => ∃ v m, m.length ≤ 1001 ∧ e = .returned v ∧ OwnL vu8 5 w w' v m ∧ Ext w w' := by
  go_enter Try.func31, Try.ntmps31
  go_wp2_with fail
  refine (l1New_c A l c w hA).mono ?_; rintro _ w1 ⟨p, rfl, hC1⟩
  have CBe := Lib.hid (fun n w' h hn => l1Below_c n w w' p A l c hA h hn)
  have CIn5 := Lib.hid (fun w' h => l1IntLit_c [0, 128, 1, 129, 255] (by simp) (by simp) 5 rfl #[.int .i64 0, .int .i64 128, .int .i64 1, .int .i64 129, .int .i64 255] rfl w w' p A l c hA h)
  have CIn3 := Lib.hid (fun w' h => l1IntLit_c [239, 240, 241] (by simp) (by simp) 3 rfl #[.int .i64 239, .int .i64 240, .int .i64 241] rfl w w' p A l c hA h)
  go_wp2_with fail
  refine (l32Bytes_c w w1 p A l c hA hC1).mono ?_; rintro _ w2 ⟨v2, q, hq, rfl, ho2, hn2, hC2⟩
  have hpl := pack_le q
  obtain ⟨A2, c2, rfl, r2⟩ := OwnL.rd ho2 (by omega)
  clear ho2 hC1 hn2
  go_wp2_with fail
  refine (sPackBytes_c _ _ _ _ r2 (by omega)).mono ?_; rintro _ w3 ⟨v3, rfl, ho3, he3⟩
  have hn3 := OwnL.lt_ne ho3 (.inl hC2.lt)
  have hC3 := hC2.ext he3
  have ho3 := OwnL.lower ho3 hC2.2.1
  have hm : (pack q).length ≤ 1000 := by have := pack_short q; omega
  generalize pack q = m at *
  clear hC2 he3 r2
  go_wp2_with fail
  refine (CBe.out 4 _ hC3 (by omega)).mono ?_; rintro _ w4 ⟨y, hy, rfl, hC4, hg4⟩
  have hy3 : y ≤ 3 := by unfold below at hy; rw [if_neg (by omega)] at hy; omega
  have ho4 := OwnL.moved ho3 hg4 hn3
  clear ho3 hC3 hg4 hy
  obtain ⟨A4, c4, rfl, r4⟩ := OwnL.rd ho4 (by omega)
  rcases (by omega : y = 0 ∨ y = 1 ∨ 2 ≤ y) with rfl | rfl | h2
  · by_cases h0 : 0 < m.length
    · go_wp2_with fail
      refine (l1Bent_c w w4 p A l c hA hC4 A4 m c4 r4 hm).mono ?_; rintro _ w5 ⟨v5, m', hm', rfl, ho5, he5⟩
      go_wp2
      go_ret
      exact ⟨_, m', hm', rfl, ho5, he5⟩
    · go_wp2_with fail
      go_ret
      exact ⟨_, m, by omega, rfl, ho4, hC4.2.1⟩
  · go_wp2_with fail
    refine (CIn5.out _ hC4).mono ?_; rintro _ w5 ⟨x, hx, rfl, hC5, hg5⟩
    have hx2 : 0 ≤ x ∧ x < 256 := by simp at hx; omega
    obtain ⟨x, rfl⟩ : ∃ k : Nat, x = (k : Int) := ⟨x.toNat, by omega⟩
    clear hx hg5 hC4 ho4 r4
    go_wp2_with fail
    refine (CIn3.out _ hC5).mono ?_; rintro _ w6 ⟨z, hz, rfl, hC6, hg6⟩
    have hz2 : 0 ≤ z ∧ z < 256 := by simp at hz; omega
    obtain ⟨z, rfl⟩ : ∃ k : Nat, z = (k : Int) := ⟨z.toNat, by omega⟩
    clear hz hg6 hC5
    go_wp2_with fail
    go_ret
    have e1 : (UInt8.ofNat x).toNat = x := by rw [UInt8.toNat_ofNat']; omega
    have e2 : (UInt8.ofNat z).toNat = z := by rw [UInt8.toNat_ofNat']; omega
    exact ⟨_, [UInt8.ofNat x, 7, 255, 1, 255, 2, 255, 3, 255, 4, 255, 5, 255, 6, UInt8.ofNat z, 7], by simp, rfl, OwnL.lit hC6.2.1 _ _ (by simp [vu8, e1, e2]) 16 (by simp) (by omega), Ext_alloc _ hC6.2.1⟩
  · go_wp2_with fail
    go_ret
    exact ⟨_, m, by omega, rfl, ho4, hC4.2.1⟩
end Go.Proofs.Ytohejlknihleeaa
