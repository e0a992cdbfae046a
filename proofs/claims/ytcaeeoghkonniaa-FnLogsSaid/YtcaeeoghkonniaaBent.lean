/- The drawn bytes of unpacking. -/
import Derived.Test.YtcaeeoghkonniaaLawRuns
import Derived.Test.YtcaeeoghkonniaaPack
import Derived.Test.YtcaeeoghkonniaaStoreLog
import Derived.Test.YtcaeeoghkonniaaPackLaw
import Derived.Test.YtcaeeoghkonniaaEncRec
namespace Go.Proofs.Ytcaeeoghkonniaa
open Go.RowKit Go.Sort

theorem grown_new {w w1 : World} {p : Nat} (h : w.grownBy w1 (some p)) {a : Addr} (hb : w.heap.size ≤ a.block) (u : Value) : w.grownBy (w1.setCell a u) (some p) :=
  ⟨h.os, h.tape, h.output, by simpa using h.size, fun k hk hne => (heap_setCell_other w1 a k u (by omega)).trans (h.block k hk hne)⟩
theorem ownBlock_len (A : Option Addr) (m n c : Nat) : (Value.slice A m c).ownBlock = (Value.slice A n c).ownBlock := by cases A <;> rfl
theorem Cur.set {wb w : World} {p : Nat} {A : Option Addr} {l : List UInt8} {c : Nat} (h : Cur wb w p A l c) {a : Addr} (hne : a.block ≠ p) (hb : wb.heap.size ≤ a.block) (u : Value) : Cur wb (w.setCell a u) p A l c :=
  h.kept (grown_set w a u) (by intro hh; injection hh with hh; exact hne hh) (h.2.1.setCell hb u)
set_option maxHeartbeats 1000000 in
theorem l1IntLit_c (ns : List Int) (hns : 0 < ns.length) (hns2 : ns.length ≤ 256) (n : Nat) (hn : n = ns.length) (cs : Array Value) (hcs : cs = (ns.map vint).toArray) (wb w : World) (p : Nat) (A : Option Addr) (l : List UInt8) (c : Nat) (hA : Bs wb A l c) (hC : Cur wb w p A l c) :
    Calls Try.prog 21 #[.pointer (some ⟨p, 0, none⟩), .slice (some ⟨w.heap.size, 0, none⟩) n n] (w.alloc (.cells cs 3)) fun e w' => ∃ x ∈ ns, e = .returned (.int .i64 x) ∧ Cur wb w' p A l c ∧ w.grownBy w' (some p) := by
  subst hn; subst hcs
  have hC' := hC.ext (Ext_alloc (.cells (ns.map vint).toArray 3) (Ext.refl w))
  have hlt := hC.lt
  refine (l1Int_c (some ⟨w.heap.size, 0, none⟩) ns ns.length hns hns2 wb _ p A l c hA hC' ?_).mono ?_
  · intro w' hg i hi
    refine ⟨w.heap.size, 0, rfl, ?_⟩
    have h0 := boxed (Ext.refl (w.alloc (.cells (ns.map vint).toArray 3))) (0 + i)
    refine hg.cell (a := ⟨w.heap.size, 0 + i, none⟩) (h0.trans ?_) (by intro hh; injection hh with hh; simp at hh; omega)
    rw [Nat.zero_add]
    simp [vint, hi]
  · rintro e w' ⟨x, hx, he, hC1, hg⟩
    exact ⟨x, hx, he, hC1, (World.grownBy_alloc w _ _).trans hg⟩
set_option maxRecDepth 100000 in
set_option maxHeartbeats 4000000 in
theorem l1Bent_c (wb w : World) (p : Nat) (A : Option Addr) (l : List UInt8) (c : Nat) (hA : Bs wb A l c) (hC : Cur wb w p A l c) (B : Option Addr) (m : List UInt8) (cB : Nat) (hB : Bs w B m cB) (hm : m.length ≤ 5000) :
    Calls Try.prog 38 #[.pointer (some ⟨p, 0, none⟩), .slice B m.length cB] w fun e w' => ∃ v m', m'.length ≤ m.length + 1 ∧ e = .returned v ∧ OwnL vu8 5 wb w' v m' ∧ Ext wb w' ∧ (∀ g, v.ownBlock = some g → w.heap.size ≤ g) ∧ Cur wb w' p A l c ∧ w.grownBy w' (some p) := by
  have CBe := Lib.hid (fun n w h hn => l1Below_c n wb w p A l c hA h hn)
  have CIn := Lib.hid (fun w h => l1IntLit_c [0, 1, 128, 255] (by simp) (by simp) 4 rfl #[.int .i64 0, .int .i64 1, .int .i64 128, .int .i64 255] rfl wb w p A l c hA h)
  have HO : Hid (OwnL vu8 5 wb (w.alloc (.cells #[] 5)) (.slice (some ⟨w.heap.size, 0, none⟩) 0 0) []) := OwnL.empty hC.2.1
  have HS := Lib.hid (hB.src (Ext_alloc (.cells #[] 5) (Ext.refl w)))
  have HB : Hid ((([] : List UInt8).length + m.length) * 1 ≤ 140737488355328) := by show _ ≤ _; simp; omega
  have HE := Lib.hid (Ext_alloc (.cells #[] 5) hC.2.1)
  clear hB
  go_enter Try.func38, Try.ntmps38
  go_wp2_with (first
    | (at_builtin; refine wpList_appL rfl (.tmp 6) (.tmp 7) _ rfl E_u8 (by omega) wb _ vu8 (fun _ => rfl) _ rfl _ _ _ rfl [] m HO.out HE.out rfl HS.out HB.out ?_; intro v1 w1 ho1 he1 hv1 hg1))
  have hlt := hC.lt
  have hC4' := hC.2.1
  have hn1 : v1.ownBlock ≠ some p := by
    rcases hv1 with hv1 | hv1 <;> (rw [hv1]; intro hh; injection hh with hh; simp at hh; omega)
  have hC1 : Cur wb w1 p A l c := Cur.kept (hC.ext (Ext_alloc (.cells #[] 5) (Ext.refl w))) hg1 (by intro hh; injection hh with hh; simp at hh; omega) he1
  rw [List.nil_append] at ho1
  have G1 : w.grownBy w1 (some p) := grown_own (World.grownBy_alloc w (.cells #[] 5) (some p)) (by intro g hh; injection hh with hh; exact Nat.le_of_eq hh) hg1
  have hb1 : ∀ g, v1.ownBlock = some g → w.heap.size ≤ g := by
    intro g hh
    rcases hv1 with hv1 | hv1
    · rw [hv1] at hh; injection hh with hh; simp at hh; omega
    · rw [hv1] at hh; injection hh with hh; simp at hh; omega
  clear hv1 hg1 HS HB HE HO hC he1
  go_wp2_with fail
  refine (CBe.out 6 _ hC1 (by omega)).mono ?_; rintro _ w2 ⟨y, hy, rfl, hC2, hg2⟩
  have hy5 : y ≤ 5 := by unfold below at hy; rw [if_neg (by omega)] at hy; omega
  have ho2 := OwnL.moved ho1 hg2 hn1
  have G2 := G1.trans hg2
  clear ho1 hC1 hg2 hy
  obtain ⟨A2, c2, rfl, r2⟩ := OwnL.rd ho2 (by omega)
  rcases (by omega : y = 0 ∨ y = 1 ∨ y = 2 ∨ 3 ≤ y) with rfl | rfl | rfl | h3
  · by_cases h0 : 0 < m.length
    · have hmi : (m.length : Int) ≤ 16777216 := by omega
      go_wp2_with fail
      refine (CBe.out m.length _ hC2 hmi).mono ?_; rintro _ w3 ⟨i, hi, rfl, hC3, hg3⟩
      have hi2 : i < m.length := by unfold below at hi; rw [if_neg (by omega)] at hi; omega
      have ho3 := OwnL.moved ho2 hg3 hn1
      have G3 := G2.trans hg3
      clear ho2 hC2 hg3 hi r2
      go_wp2_with fail
      refine (CBe.out 256 _ hC3 (by omega)).mono ?_; rintro _ w4 ⟨x, hx, rfl, hC4, hg4⟩
      have hx2 : x < 256 := by unfold below at hx; rw [if_neg (by omega)] at hx; omega
      have ho4 := OwnL.moved ho3 hg4 hn1
      have G4 := G3.trans hg4
      clear ho3 hC3 hg4 hx
      obtain ⟨g, cap, hv, _, _⟩ := World.ownsRow.form ho4 h0
      injection hv with hv1 _ hv3
      subst hv1; subst hv3
      obtain ⟨⟨u0, hu⟩, hf⟩ := Own.slot ho4 i (by simp; omega)
      obtain ⟨ho', he'⟩ := Own.store ho4 hC4.2.1 i (.int .u8 (x : Int))
      have hset : (m.map vu8).set i (.int .u8 (x : Int)) = (m.set i (UInt8.ofNat x)).map vu8 := by
        have : (UInt8.ofNat x).toNat = x := by rw [UInt8.toNat_ofNat']; omega
        rw [List.map_set]; simp [vu8, this]
      rw [hset] at ho'
      have HO' : Hid (OwnL vu8 5 wb (w4.setCell ⟨g, i, none⟩ (.int .u8 (x : Int))) (.slice (some ⟨g, 0, none⟩) m.length c2) (m.set i (UInt8.ofNat x))) := by
        show OwnL _ _ _ _ _ _; unfold OwnL; rw [List.length_set]; exact ho'
      have HE' := Lib.hid he'
      have hgb : w.heap.size ≤ g := hb1 g rfl
      have HC' := Lib.hid (hC4.set (a := ⟨g, i, none⟩) (fun hh => hn1 (congrArg some hh)) (Nat.le_trans hC4'.size hgb) (.int .u8 (x : Int)))
      have HG' := Lib.hid (grown_new (a := ⟨g, i, none⟩) G4 hgb (.int .u8 (x : Int)))
      clear ho' he' ho4 hC4 hset
      go_wp2_with fail
      go_ret
      exact ⟨_, m.set i (UInt8.ofNat x), by simp, rfl, HO'.out, HE'.out, hb1, HC'.out, HG'.out⟩
    · go_wp2_with fail
      go_ret
      exact ⟨_, m, by omega, rfl, ho2, hC2.2.1, hb1, hC2, G2⟩
  · have hmi : (m.length : Int) + 1 ≤ 16777216 := by omega
    go_wp2_with fail
    refine (CBe.out ((m.length : Int) + 1) _ hC2 hmi).mono ?_; rintro _ w3 ⟨i, hi, rfl, hC3, hg3⟩
    have hi2 : i ≤ m.length := by unfold below at hi; rw [if_neg (by omega)] at hi; omega
    have hcap := r2.cap
    have ho3 := OwnL.moved ho2 hg3 hn1
    have G3 := G2.trans hg3
    clear ho2 hC2 hg3 hi r2
    go_wp2_with fail
    go_ret
    exact ⟨_, m.take i, by simp; omega, rfl, OwnL.take ho3 hi2, hC3.2.1, (fun g hh => hb1 g ((ownBlock_len _ _ _ _).trans hh)), hC3, G3⟩
  · go_wp2_with fail
    refine (CIn.out _ hC2).mono ?_; rintro _ w3 ⟨x, hx, rfl, hC3, hg3⟩
    have ho3 := OwnL.moved ho2 hg3 hn1
    have G3 := G2.trans hg3
    have hx2 : 0 ≤ x ∧ x < 256 := by simp at hx; omega
    obtain ⟨x, rfl⟩ : ∃ k : Nat, x = (k : Int) := ⟨x.toNat, by omega⟩
    clear ho2 hC2 hg3 hx r2
    have HB : Hid ((m.length + [UInt8.ofNat x].length) * 1 ≤ 140737488355328) := by show _ ≤ _; simp; omega
    have HCS : Hid (#[Value.int .u8 (x : Int)] = ([UInt8.ofNat x].map vu8).toArray) := by
      show _ = _
      have : (UInt8.ofNat x).toNat = x := by rw [UInt8.toNat_ofNat']; omega
      simp [vu8, this]
    go_wp2_with (first
      | (at_builtin; refine wpList_appC rfl (.tmp 36) (.tmp 41) _ rfl E_u8 (by omega) wb _ vu8 (fun _ => rfl) _ rfl _ _ rfl m [UInt8.ofNat x] _ HCS.out ho3 hC3.2.1 rfl HB.out p hC3.lt hn1 ?_; intro v4 w4 ho4 he4 hn4 hg4 hb4 _))
    go_ret
    exact ⟨_, m ++ [UInt8.ofNat x], by simp, rfl, ho4, he4, hb4 _ G3.size hb1, Cur.kept hC3 hg4 hn1 he4, grown_own G3 hb1 hg4⟩
  · go_wp2_with fail
    go_ret
    exact ⟨_, m, by omega, rfl, ho2, hC2.2.1, hb1, hC2, G2⟩
end Go.Proofs.Ytcaeeoghkonniaa
