/- Draws of descriptions: l4Make (one rule of a given kind), but for kinds 6 and 7. (Kinds printed by gen/gx21.py.) -/
import Derived.Test.YtophjmphjdhjoaaZLp2
import Derived.Deep.RegionHeld3
import Derived.Deep.DeepCutAuto
import Derived.IntWalk
set_option linter.unusedVariables false
set_option linter.unusedSimpArgs false
namespace Go.Proofs.Ytophjmphjdhjoaa
open Go.RowKit Go.Sort

set_option maxRecDepth 100000 in
set_option maxHeartbeats 8000000 in
theorem l4Make1_c (Ad : Option Addr) (ds : List DRule) (cd : Nat) (kind : Int) (hkind : 1 ≤ kind ∧ kind ≤ 10 ∧ kind ≠ 6 ∧ kind ≠ 7) (hDn : ds.length ≤ 64) (hki : kind = 1 ∨ ∃ i, ∃ h : i < ds.length, ds[i].kind = 1) (hMD : MadeD ds)
    (wb w : World) (p : Nat) (A : Option Addr) (l : List UInt8) (c : Nat) (hA : Bs wb A l c) (hC : Cur wb w p A l c) (hD : ∀ w', w.grownBy w' (some p) → RdD w' Ad ds cd) :
    Calls Try.prog 37 #[.pointer (some ⟨p, 0, none⟩), vdesc (.slice Ad ds.length cd), .int .i64 kind] w fun e w' => ∃ q : RV, e = .returned (vrule q.r q.vb q.vn q.vt q.vk) ∧ SmallR q.r ∧ q.r.kind = kind ∧ MadeR ds q.r ∧ RuleOwn wb w' q ∧ Far q.vals ∧ (∀ u ∈ q.vals, ∀ b, u.ownBlock = some b → w.heap.size ≤ b) ∧ Cur wb w' p A l c ∧ w.grownBy w' (some p) := by
  have hplt := hC.lt
  have hbw := hC.2.1.size
  have CBe := Lib.hid (fun n w h hn => l1Below_c n wb w p A l c hA h hn)
  have COn := Lib.hid (fun n w h hn => l1Once_c n wb w p A l c hA h hn)
  have CS := Lib.hid (fun w h => l1StrLit_c [⟨#[97]⟩, ⟨#[105, 116, 101, 109]⟩, ⟨#[98]⟩, ⟨#[104, 101, 97, 100]⟩, ⟨#[120]⟩] (by simp) (by simp) 5 rfl #[.string ⟨#[97]⟩, .string ⟨#[105, 116, 101, 109]⟩, .string ⟨#[98]⟩, .string ⟨#[104, 101, 97, 100]⟩, .string ⟨#[120]⟩] rfl wb w p A l c hA h)
  have CF := Lib.hid (fun w => sFormatInt_c (ds.length : Int) w (by omega) (by omega))
  have hit := itoa_size (ds.length : Int) (by omega) (by omega)
  obtain ⟨it, hit0⟩ : ∃ it, itoaB (ds.length : Int) = it := ⟨_, rfl⟩
  rw [hit0] at hit CF
  have HIT := Lib.hid hit0
  clear hit0
  have HD := Lib.hid hD; have hki := Lib.hid hki; have hMD := Lib.hid hMD
  clear hD
  obtain ⟨W0, hW0, HP, HR, e0, hsA⟩ := boxes2' w #[.slice Ad ds.length cd] #[.string ⟨#[]⟩, .int .i64 0, .int .i64 0, .bool false, .slice none 0 0, .slice none 0 0, .slice none 0 0, .slice none 0 0] 26 35
  unfold vdesc
  go_enter Try.func37, Try.ntmps37
  go_wp2_with fail
  rw [← hW0.out]
  have C1 := CS.out W0 (hC.ext e0)
  rw [hsA] at C1
  have C1 := Lib.hid C1
  refine C1.out.mono ?_; rintro _ w1 ⟨nm0, hnm0, rfl, hC1, hg1⟩
  have HNM : Hid (∃ s ∈ heads, nm0 ++ it = s ++ itoaB (ds.length : Int)) := ⟨nm0, hnm0, by rw [HIT.out]⟩
  have hnm : nm0.size ≤ 4 := by simp at hnm0; rcases hnm0 with rfl | rfl | rfl | rfl | rfl <;> decide
  have G1 := (grown_ext e0 (some p)).trans hg1
  have HP1 := Lib.hid (HP.moved hg1 (some_ne (by omega)))
  have HR1 := Lib.hid (HR.moved hg1 (some_ne (by omega)))
  clear hnm0 hg1 C1 CS HP HR e0
  go_wp2_with fail
  refine (CF.out _).mono ?_; rintro _ w2 ⟨rfl, s2⟩
  have G2 := Lib.hid (G1.trans (grown_ext s2 _))
  have HP2 := Lib.hid (HP1.out.ext s2); have HR2 := Lib.hid (HR1.out.ext s2); have hC2 := hC1.ext s2
  clear G1 HP1 HR1 hC1 s2
  have hnl : (nm0 ++ it).size ≤ 24 := by have := ByteArray.size_append (a := nm0) (b := it); omega
  have x3 := Ext_alloc (.cells #[.string (nm0 ++ it), .int .i64 kind, .int .i64 0, .bool false, .slice none 0 0, .slice none 0 0, .slice none 0 0, .slice none 0 0] 35) (Ext.refl w2)
  have hgs := G2.out.size
  have M0 : Hid (Mk wb w (w2.alloc (.cells #[.string (nm0 ++ it), .int .i64 kind, .int .i64 0, .bool false, .slice none 0 0, .slice none 0 0, .slice none 0 0, .slice none 0 0] 35)) p A l c w2.heap.size ⟨⟨nm0 ++ it, kind, 0, false, [], [], [], []⟩, .slice none 0 0, .slice none 0 0, .slice none 0 0, .slice none 0 0⟩) :=
    ⟨Box.new w2 _ _, ⟨OwnL.nil _ _, OwnL.nil _ _, OwnL.nil _ _, OwnL.nil _ _⟩, by simp [Far, RV.vals, Value.ownBlock], by simp [RV.vals, Value.ownBlock], hC2.ext x3, G2.out.trans (grown_ext x3 _), hgs, by omega, by omega⟩
  have HP3 := Lib.hid (HP2.out.ext x3); have HR3 := Lib.hid (HR2.out.ext x3)
  have hlt2 : w.heap.size + 1 < w2.heap.size := HR2.out.lt
  clear HP2 HR2 hC2 G2 x3 CF
  obtain ⟨W3, hW3⟩ : ∃ W3, W3 = w2.alloc (.cells #[.string (nm0 ++ it), .int .i64 kind, .int .i64 0, .bool false, .slice none 0 0, .slice none 0 0, .slice none 0 0, .slice none 0 0] 35) := ⟨_, rfl⟩
  rw [← hW3] at M0 HP3 HR3
  have HW3 := Lib.hid hW3; clear hW3
  have HCB := Lib.hid CBe.out
  rcases (by omega : kind = 8 ∨ kind = 9 ∨ kind = 3 ∨ kind = 1 ∨ kind = 10 ∨ kind = 2 ∨ kind = 4 ∨ kind = 5) with rfl | rfl | rfl | rfl | rfl | rfl | rfl | rfl
  · have hds0 : 0 < ds.length := by obtain ⟨i, hi, _⟩ := hki.out.resolve_left (by omega); omega
    go_wp2_with fail
    rw [← HW3.out]
    refine (CBe.out ds.length _ M0.out.cur (by omega)).mono ?_; rintro _ w4 ⟨y, hy, rfl, hC4, hg4⟩
    have HYL : Hid (y < ds.length) := by show _ < _; unfold below at hy; rw [if_neg (by omega)] at hy; omega
    have hyn : y ≤ 64 := by have := HYL.out; omega
    have M4 := M0.out.moved hC4 hg4
    have HR4 := Lib.hid (HR3.out.moved hg4 (some_ne (by omega)))
    have x5 := Ext_alloc (.cells #[.int .i64 y] 3) (Ext.refl w4)
    have ho5 := OwnL.lit (f := vint) (e := 3) hC4.2.1 [(y : Int)] #[.int .i64 y] rfl 1 rfl (by omega)
    have M5 := M4.ext x5
    have z7 : _ = some (Value.slice none 0 0) := M5.box.cell 7
    have y7 := M5.box.free 7
    have hgl4 := M4.box.lt; have hpl4 := hC4.lt
    have M6 := Lib.hid (M5.fresh_k ho5 (n0 := w4.heap.size) (fun b hb => by injection hb with hb; simp at hb; omega) (by simp [RV.vals, Value.ownBlock]) (by omega) (by omega) (by have := M4.grow.size; omega))
    have HR6 := Lib.hid ((HR4.out.ext x5).other (g' := w2.heap.size) (by omega) 7 (.slice (some ⟨w4.heap.size, 0, none⟩) 1 1))
    have hcm := World.setCell_alloc_past (w := w4) (.cells #[.int .i64 y] 3) w2.heap.size 7 (.slice (some ⟨w4.heap.size, 0, none⟩) 1 1) (by omega)
    rw [hcm] at M6 HR6
    clear M4 M5 ho5 x5 hC4 hg4 HR4 hcm
    obtain ⟨⟨a0, a1, a2, a3⟩, a4, a5, a6, a7⟩ := cells8 M6.out.box
    obtain ⟨⟨b0, b1, b2, b3⟩, b4, b5, b6, b7⟩ := cells8 (q := ⟨⟨⟨#[]⟩, 0, 0, false, [], [], [], []⟩, .slice none 0 0, .slice none 0 0, .slice none 0 0, .slice none 0 0⟩) HR6.out
    obtain ⟨⟨d0, d1, d2, d3⟩, d4, d5, d6, d7⟩ := frees8 HR6.out
    dsimp only at a0 a1 a2 a3 a4 a5 a6 a7 b0 b1 b2 b3 b4 b5 b6 b7
    have hR2 : ∀ u ∈ RV.vals ⟨⟨nm0 ++ it, 8, 0, false, [], [], [], [(y : Int)]⟩, .slice none 0 0, .slice none 0 0, .slice none 0 0, .slice (some ⟨w4.heap.size, 0, none⟩) 1 1⟩, ∀ b, u.ownBlock = some b → b ≠ w.heap.size + 1 := by
      intro u hu b hb
      simp only [RV.vals, List.mem_cons, List.not_mem_nil, or_false] at hu
      rcases hu with rfl | rfl | rfl | rfl
      · cases hb
      · cases hb
      · cases hb
      · (have : some w4.heap.size = some b := hb); injection this; omega
    have HOUT := Lib.hid (M6.out.out HR6.out (by omega) (by omega) (by omega) hR2)
    dsimp only at HOUT
    have hnew := fun u hu b hb => (M6.out.new u hu b hb).1
    have hfar := M6.out.far
    go_wp2_with fail
    obtain ⟨hB, hO, hCc, hG⟩ := HOUT.out
    obtain ⟨⟨e0, e1, e2, e3⟩, e4, e5, e6, e7⟩ := cells8 (q := ⟨⟨nm0 ++ it, 8, 0, false, [], [], [], [(y : Int)]⟩, .slice none 0 0, .slice none 0 0, .slice none 0 0, .slice (some ⟨w4.heap.size, 0, none⟩) 1 1⟩) hB
    dsimp only at e0 e1 e2 e3 e4 e5 e6 e7
    refine bodyPost_ret (v := vrule ⟨nm0 ++ it, 8, 0, false, [], [], [], [(y : Int)]⟩ (.slice none 0 0) (.slice none 0 0) (.slice none 0 0) (.slice (some ⟨w4.heap.size, 0, none⟩) 1 1)) (by simp [results, Try.results37, go_sem, e0, e1, e2, e3, e4, e5, e6, e7, vrule]) rfl ?_
    exact ⟨_, rfl, ⟨by show (nm0 ++ it).size ≤ 40; omega, by simp, by simp, by simp; omega⟩, rfl, made_opt HNM.out HYL.out, hO, hfar, hnew, hCc, hG⟩
  · have hds0 : 0 < ds.length := by obtain ⟨i, hi, _⟩ := hki.out.resolve_left (by omega); omega
    go_wp2_with fail
    rw [← HW3.out]
    refine (CBe.out ds.length _ M0.out.cur (by omega)).mono ?_; rintro _ w4 ⟨y, hy, rfl, hC4, hg4⟩
    have HYL : Hid (y < ds.length) := by show _ < _; unfold below at hy; rw [if_neg (by omega)] at hy; omega
    have hyn : y ≤ 64 := by have := HYL.out; omega
    have M4 := M0.out.moved hC4 hg4
    have HR4 := Lib.hid (HR3.out.moved hg4 (some_ne (by omega)))
    have x5 := Ext_alloc (.cells #[.int .i64 y] 3) (Ext.refl w4)
    have ho5 := OwnL.lit (f := vint) (e := 3) hC4.2.1 [(y : Int)] #[.int .i64 y] rfl 1 rfl (by omega)
    have M5 := M4.ext x5
    have z7 : _ = some (Value.slice none 0 0) := M5.box.cell 7
    have y7 := M5.box.free 7
    have hgl4 := M4.box.lt; have hpl4 := hC4.lt
    have M6 := Lib.hid (M5.fresh_k ho5 (n0 := w4.heap.size) (fun b hb => by injection hb with hb; simp at hb; omega) (by simp [RV.vals, Value.ownBlock]) (by omega) (by omega) (by have := M4.grow.size; omega))
    have HR6 := Lib.hid ((HR4.out.ext x5).other (g' := w2.heap.size) (by omega) 7 (.slice (some ⟨w4.heap.size, 0, none⟩) 1 1))
    have hcm := World.setCell_alloc_past (w := w4) (.cells #[.int .i64 y] 3) w2.heap.size 7 (.slice (some ⟨w4.heap.size, 0, none⟩) 1 1) (by omega)
    rw [hcm] at M6 HR6
    clear M4 M5 ho5 x5 hC4 hg4 HR4 hcm
    obtain ⟨⟨a0, a1, a2, a3⟩, a4, a5, a6, a7⟩ := cells8 M6.out.box
    obtain ⟨⟨b0, b1, b2, b3⟩, b4, b5, b6, b7⟩ := cells8 (q := ⟨⟨⟨#[]⟩, 0, 0, false, [], [], [], []⟩, .slice none 0 0, .slice none 0 0, .slice none 0 0, .slice none 0 0⟩) HR6.out
    obtain ⟨⟨d0, d1, d2, d3⟩, d4, d5, d6, d7⟩ := frees8 HR6.out
    dsimp only at a0 a1 a2 a3 a4 a5 a6 a7 b0 b1 b2 b3 b4 b5 b6 b7
    have hR2 : ∀ u ∈ RV.vals ⟨⟨nm0 ++ it, 9, 0, false, [], [], [], [(y : Int)]⟩, .slice none 0 0, .slice none 0 0, .slice none 0 0, .slice (some ⟨w4.heap.size, 0, none⟩) 1 1⟩, ∀ b, u.ownBlock = some b → b ≠ w.heap.size + 1 := by
      intro u hu b hb
      simp only [RV.vals, List.mem_cons, List.not_mem_nil, or_false] at hu
      rcases hu with rfl | rfl | rfl | rfl
      · cases hb
      · cases hb
      · cases hb
      · (have : some w4.heap.size = some b := hb); injection this; omega
    have HOUT := Lib.hid (M6.out.out HR6.out (by omega) (by omega) (by omega) hR2)
    dsimp only at HOUT
    have hnew := fun u hu b hb => (M6.out.new u hu b hb).1
    have hfar := M6.out.far
    go_wp2_with fail
    obtain ⟨hB, hO, hCc, hG⟩ := HOUT.out
    obtain ⟨⟨e0, e1, e2, e3⟩, e4, e5, e6, e7⟩ := cells8 (q := ⟨⟨nm0 ++ it, 9, 0, false, [], [], [], [(y : Int)]⟩, .slice none 0 0, .slice none 0 0, .slice none 0 0, .slice (some ⟨w4.heap.size, 0, none⟩) 1 1⟩) hB
    dsimp only at e0 e1 e2 e3 e4 e5 e6 e7
    refine bodyPost_ret (v := vrule ⟨nm0 ++ it, 9, 0, false, [], [], [], [(y : Int)]⟩ (.slice none 0 0) (.slice none 0 0) (.slice none 0 0) (.slice (some ⟨w4.heap.size, 0, none⟩) 1 1)) (by simp [results, Try.results37, go_sem, e0, e1, e2, e3, e4, e5, e6, e7, vrule]) rfl ?_
    exact ⟨_, rfl, ⟨by show (nm0 ++ it).size ≤ 40; omega, by simp, by simp, by simp; omega⟩, rfl, made_checked HNM.out HYL.out, hO, hfar, hnew, hCc, hG⟩
  · go_wp2_with fail
    rw [← HW3.out]
    refine (CBe.out 4 _ M0.out.cur (by omega)).mono ?_; rintro _ w4 ⟨y, hy, rfl, hC4, hg4⟩
    have hyn : y < 4 := by unfold below at hy; rw [if_neg (by omega)] at hy; omega
    have M4 := M0.out.moved hC4 hg4
    have HR4 := Lib.hid (HR3.out.moved hg4 (some_ne (by omega)))
    have z2 : _ = some (Value.int .i64 0) := M4.box.cell 2
    have y2 := M4.box.free 2
    have M6 := Lib.hid (M4.put (q' := ⟨⟨nm0 ++ it, 3, 1 + (y : Int), false, [], [], [], []⟩, .slice none 0 0, .slice none 0 0, .slice none 0 0, .slice none 0 0⟩) 2 (.int .i64 (1 + (y : Int))) (by simp [RV.cells]) rfl ⟨rfl, rfl, rfl, rfl⟩)
    have HR6 := Lib.hid (HR4.out.other (g' := w2.heap.size) (by omega) 2 (.int .i64 (1 + (y : Int))))
    clear M4 hC4 hg4 HR4
    obtain ⟨⟨a0, a1, a2, a3⟩, a4, a5, a6, a7⟩ := cells8 M6.out.box
    obtain ⟨⟨b0, b1, b2, b3⟩, b4, b5, b6, b7⟩ := cells8 (q := ⟨⟨⟨#[]⟩, 0, 0, false, [], [], [], []⟩, .slice none 0 0, .slice none 0 0, .slice none 0 0, .slice none 0 0⟩) HR6.out
    obtain ⟨⟨d0, d1, d2, d3⟩, d4, d5, d6, d7⟩ := frees8 HR6.out
    dsimp only at a0 a1 a2 a3 a4 a5 a6 a7 b0 b1 b2 b3 b4 b5 b6 b7
    have hR2 : ∀ u ∈ RV.vals ⟨⟨nm0 ++ it, 3, 1 + (y : Int), false, [], [], [], []⟩, .slice none 0 0, .slice none 0 0, .slice none 0 0, .slice none 0 0⟩, ∀ b, u.ownBlock = some b → b ≠ w.heap.size + 1 := by
      intro u hu b hb
      simp only [RV.vals, List.mem_cons, List.not_mem_nil, or_false] at hu
      rcases hu with rfl | rfl | rfl | rfl
      · cases hb
      · cases hb
      · cases hb
      · cases hb
    have HOUT := Lib.hid (M6.out.out HR6.out (by omega) (by omega) (by omega) hR2)
    dsimp only at HOUT
    have hnew := fun u hu b hb => (M6.out.new u hu b hb).1
    have hfar := M6.out.far
    go_wp2_with fail
    obtain ⟨hB, hO, hCc, hG⟩ := HOUT.out
    obtain ⟨⟨e0, e1, e2, e3⟩, e4, e5, e6, e7⟩ := cells8 (q := ⟨⟨nm0 ++ it, 3, 1 + (y : Int), false, [], [], [], []⟩, .slice none 0 0, .slice none 0 0, .slice none 0 0, .slice none 0 0⟩) hB
    dsimp only at e0 e1 e2 e3 e4 e5 e6 e7
    refine bodyPost_ret (v := vrule ⟨nm0 ++ it, 3, 1 + (y : Int), false, [], [], [], []⟩ (.slice none 0 0) (.slice none 0 0) (.slice none 0 0) (.slice none 0 0)) (by simp [results, Try.results37, go_sem, e0, e1, e2, e3, e4, e5, e6, e7, vrule]) rfl ?_
    exact ⟨_, rfl, ⟨by show (nm0 ++ it).size ≤ 40; omega, by simp, by simp, by simp; omega⟩, rfl, made_fixed HNM.out (by omega), hO, hfar, hnew, hCc, hG⟩
  · go_wp2_with fail
    rw [← HW3.out]
    refine (CBe.out 3 _ M0.out.cur (by omega)).mono ?_; rintro _ w4 ⟨y, hy, rfl, hC4, hg4⟩
    have hyn : y < 3 := by unfold below at hy; rw [if_neg (by omega)] at hy; omega
    have M4 := M0.out.moved hC4 hg4
    have HR4 := Lib.hid (HR3.out.moved hg4 (some_ne (by omega)))
    have z2 : _ = some (Value.int .i64 0) := M4.box.cell 2
    have y2 := M4.box.free 2
    have M5 := Lib.hid (M4.put (q' := ⟨⟨nm0 ++ it, 1, 1 + (y : Int), false, [], [], [], []⟩, .slice none 0 0, .slice none 0 0, .slice none 0 0, .slice none 0 0⟩) 2 (.int .i64 (1 + (y : Int))) (by simp [RV.cells]) rfl ⟨rfl, rfl, rfl, rfl⟩)
    have HR5 := Lib.hid (HR4.out.other (g' := w2.heap.size) (by omega) 2 (.int .i64 (1 + (y : Int))))
    clear M4 hC4 hg4 HR4
    have z5 : _ = some (Value.int .i64 (1 + (y : Int))) := M5.out.box.cell 2
    by_cases hy0 : y = 0
    · have hd : decide ((1 : Int) < 1 + (y : Int)) = false := by rw [decide_eq_false_iff_not]; omega
      have hd1 : decide ((0 : Int) < (y : Int)) = false := by rw [decide_eq_false_iff_not]; omega
      have hd2 : decide (0 < y) = false := by rw [decide_eq_false_iff_not]; omega
      have hd3 : ¬ (1 : Int) < 1 + (y : Int) := by omega
      clear hy0
      have z3 : _ = some (Value.bool false) := M5.out.box.cell 3
      have y3 := M5.out.box.free 3
      have M6 := Lib.hid (M5.out.put (q' := ⟨⟨nm0 ++ it, 1, 1 + (y : Int), false, [], [], [], []⟩, .slice none 0 0, .slice none 0 0, .slice none 0 0, .slice none 0 0⟩) 3 (.bool false) (by simp [RV.cells]) rfl ⟨rfl, rfl, rfl, rfl⟩)
      have HR6 := Lib.hid (HR5.out.other (g' := w2.heap.size) (by omega) 3 (.bool false))
      clear M5 HR5
      obtain ⟨⟨a0, a1, a2, a3⟩, a4, a5, a6, a7⟩ := cells8 M6.out.box
      obtain ⟨⟨b0, b1, b2, b3⟩, b4, b5, b6, b7⟩ := cells8 (q := ⟨⟨⟨#[]⟩, 0, 0, false, [], [], [], []⟩, .slice none 0 0, .slice none 0 0, .slice none 0 0, .slice none 0 0⟩) HR6.out
      obtain ⟨⟨d0, d1, d2, d3⟩, d4, d5, d6, d7⟩ := frees8 HR6.out
      dsimp only at a0 a1 a2 a3 a4 a5 a6 a7 b0 b1 b2 b3 b4 b5 b6 b7
      have hR2 : ∀ u ∈ RV.vals ⟨⟨nm0 ++ it, 1, 1 + (y : Int), false, [], [], [], []⟩, .slice none 0 0, .slice none 0 0, .slice none 0 0, .slice none 0 0⟩, ∀ b, u.ownBlock = some b → b ≠ w.heap.size + 1 := by
        intro u hu b hb
        simp only [RV.vals, List.mem_cons, List.not_mem_nil, or_false] at hu
        rcases hu with rfl | rfl | rfl | rfl
        · cases hb
        · cases hb
        · cases hb
        · cases hb
      have HOUT := Lib.hid (M6.out.out HR6.out (by omega) (by omega) (by omega) hR2)
      dsimp only at HOUT
      have hnew := fun u hu b hb => (M6.out.new u hu b hb).1
      have hfar := M6.out.far
      go_wp2_with fail
      obtain ⟨hB, hO, hCc, hG⟩ := HOUT.out
      obtain ⟨⟨e0, e1, e2, e3⟩, e4, e5, e6, e7⟩ := cells8 (q := ⟨⟨nm0 ++ it, 1, 1 + (y : Int), false, [], [], [], []⟩, .slice none 0 0, .slice none 0 0, .slice none 0 0, .slice none 0 0⟩) hB
      dsimp only at e0 e1 e2 e3 e4 e5 e6 e7
      refine bodyPost_ret (v := vrule ⟨nm0 ++ it, 1, 1 + (y : Int), false, [], [], [], []⟩ (.slice none 0 0) (.slice none 0 0) (.slice none 0 0) (.slice none 0 0)) (by simp [results, Try.results37, go_sem, e0, e1, e2, e3, e4, e5, e6, e7, vrule]) rfl ?_
      exact ⟨_, rfl, ⟨by show (nm0 ++ it).size ≤ 40; omega, by simp, by simp, by simp; omega⟩, rfl, made_int HNM.out (by omega) (fun h => by first | omega | cases h), hO, hfar, hnew, hCc, hG⟩
    · have hd : decide ((1 : Int) < 1 + (y : Int)) = true := by rw [decide_eq_true_eq]; omega
      go_wp2_with fail
      refine (COn.out 2 _ M5.out.cur (by omega)).mono ?_; rintro _ w6 ⟨bb, rfl, hC6, hg6⟩
      have M7 := M5.out.moved hC6 hg6
      have HR7 := Lib.hid (HR5.out.moved hg6 (some_ne (by omega)))
      have z3 : _ = some (Value.bool false) := M7.box.cell 3
      have y3 := M7.box.free 3
      have M6 := Lib.hid (M7.put (q' := ⟨⟨nm0 ++ it, 1, 1 + (y : Int), bb, [], [], [], []⟩, .slice none 0 0, .slice none 0 0, .slice none 0 0, .slice none 0 0⟩) 3 (.bool bb) (by simp [RV.cells]) rfl ⟨rfl, rfl, rfl, rfl⟩)
      have HR6 := Lib.hid (HR7.out.other (g' := w2.heap.size) (by omega) 3 (.bool bb))
      clear M5 HR5 M7 HR7 hC6 hg6
      obtain ⟨⟨a0, a1, a2, a3⟩, a4, a5, a6, a7⟩ := cells8 M6.out.box
      obtain ⟨⟨b0, b1, b2, b3⟩, b4, b5, b6, b7⟩ := cells8 (q := ⟨⟨⟨#[]⟩, 0, 0, false, [], [], [], []⟩, .slice none 0 0, .slice none 0 0, .slice none 0 0, .slice none 0 0⟩) HR6.out
      obtain ⟨⟨d0, d1, d2, d3⟩, d4, d5, d6, d7⟩ := frees8 HR6.out
      dsimp only at a0 a1 a2 a3 a4 a5 a6 a7 b0 b1 b2 b3 b4 b5 b6 b7
      have hR2 : ∀ u ∈ RV.vals ⟨⟨nm0 ++ it, 1, 1 + (y : Int), bb, [], [], [], []⟩, .slice none 0 0, .slice none 0 0, .slice none 0 0, .slice none 0 0⟩, ∀ b, u.ownBlock = some b → b ≠ w.heap.size + 1 := by
        intro u hu b hb
        simp only [RV.vals, List.mem_cons, List.not_mem_nil, or_false] at hu
        rcases hu with rfl | rfl | rfl | rfl
        · cases hb
        · cases hb
        · cases hb
        · cases hb
      have HOUT := Lib.hid (M6.out.out HR6.out (by omega) (by omega) (by omega) hR2)
      dsimp only at HOUT
      have hnew := fun u hu b hb => (M6.out.new u hu b hb).1
      have hfar := M6.out.far
      go_wp2_with fail
      obtain ⟨hB, hO, hCc, hG⟩ := HOUT.out
      obtain ⟨⟨e0, e1, e2, e3⟩, e4, e5, e6, e7⟩ := cells8 (q := ⟨⟨nm0 ++ it, 1, 1 + (y : Int), bb, [], [], [], []⟩, .slice none 0 0, .slice none 0 0, .slice none 0 0, .slice none 0 0⟩) hB
      dsimp only at e0 e1 e2 e3 e4 e5 e6 e7
      refine bodyPost_ret (v := vrule ⟨nm0 ++ it, 1, 1 + (y : Int), bb, [], [], [], []⟩ (.slice none 0 0) (.slice none 0 0) (.slice none 0 0) (.slice none 0 0)) (by simp [results, Try.results37, go_sem, e0, e1, e2, e3, e4, e5, e6, e7, vrule]) rfl ?_
      exact ⟨_, rfl, ⟨by show (nm0 ++ it).size ≤ 40; omega, by simp, by simp, by simp; omega⟩, rfl, made_int HNM.out (by omega) (fun h => by first | omega | cases h), hO, hfar, hnew, hCc, hG⟩
  · have hsz3 : W3.heap.size = w2.heap.size + 1 := by rw [HW3.out]; simp
    have CI := l1IntLit_c [0, 10, 59, 255] (by simp) (by simp) 4 rfl #[.int .i64 0, .int .i64 10, .int .i64 59, .int .i64 255] rfl wb W3 p A l c hA M0.out.cur
    rw [hsz3] at CI
    have CI := Lib.hid CI
    go_wp2_with fail
    rw [← HW3.out]
    refine CI.out.mono ?_; rintro _ w4 ⟨x, hx, rfl, hC4, hg4⟩
    obtain ⟨y, hy, hy92, rfl⟩ : ∃ y : Nat, y < 256 ∧ UInt8.ofNat y ≠ 92 ∧ x = (y : Int) := by
      simp only [List.mem_cons, List.not_mem_nil, or_false] at hx
      rcases hx with rfl | rfl | rfl | rfl
      · exact ⟨0, by omega, by decide, rfl⟩
      · exact ⟨10, by omega, by decide, rfl⟩
      · exact ⟨59, by omega, by decide, rfl⟩
      · exact ⟨255, by omega, by decide, rfl⟩
    have HY92 := Lib.hid hy92; clear hx hy92
    have hyb : (UInt8.ofNat y).toNat = y := by rw [UInt8.toNat_ofNat']; omega
    have M4 := M0.out.moved hC4 hg4
    have HR4 := Lib.hid (HR3.out.moved hg4 (some_ne (by omega)))
    have x5 := Ext_alloc (.cells #[.int .u8 y] 5) (Ext.refl w4)
    have ho5 := OwnL.lit (f := vu8) (e := 5) hC4.2.1 [UInt8.ofNat y] #[.int .u8 y] (by simp [vu8, hyb]) 1 rfl (by omega)
    have M5 := M4.ext x5
    have z7 : _ = some (Value.slice none 0 0) := M5.box.cell 4
    have y7 := M5.box.free 4
    have hgl4 := M4.box.lt; have hpl4 := hC4.lt
    have M6 := Lib.hid (M5.fresh_b ho5 (n0 := w4.heap.size) (fun b hb => by injection hb with hb; simp at hb; omega) (by simp [RV.vals, Value.ownBlock]) (by omega) (by omega) (by have := M4.grow.size; omega))
    have HR6 := Lib.hid ((HR4.out.ext x5).other (g' := w2.heap.size) (by omega) 4 (.slice (some ⟨w4.heap.size, 0, none⟩) 1 1))
    have hcm := World.setCell_alloc_past (w := w4) (.cells #[.int .u8 y] 5) w2.heap.size 4 (.slice (some ⟨w4.heap.size, 0, none⟩) 1 1) (by omega)
    rw [hcm] at M6 HR6
    clear M4 M5 ho5 x5 hC4 hg4 HR4 hcm hyb
    obtain ⟨⟨a0, a1, a2, a3⟩, a4, a5, a6, a7⟩ := cells8 M6.out.box
    obtain ⟨⟨b0, b1, b2, b3⟩, b4, b5, b6, b7⟩ := cells8 (q := ⟨⟨⟨#[]⟩, 0, 0, false, [], [], [], []⟩, .slice none 0 0, .slice none 0 0, .slice none 0 0, .slice none 0 0⟩) HR6.out
    obtain ⟨⟨d0, d1, d2, d3⟩, d4, d5, d6, d7⟩ := frees8 HR6.out
    dsimp only at a0 a1 a2 a3 a4 a5 a6 a7 b0 b1 b2 b3 b4 b5 b6 b7
    have hR2 : ∀ u ∈ RV.vals ⟨⟨nm0 ++ it, 10, 0, false, [UInt8.ofNat y], [], [], []⟩, .slice (some ⟨w4.heap.size, 0, none⟩) 1 1, .slice none 0 0, .slice none 0 0, .slice none 0 0⟩, ∀ b, u.ownBlock = some b → b ≠ w.heap.size + 1 := by
      intro u hu b hb
      simp only [RV.vals, List.mem_cons, List.not_mem_nil, or_false] at hu
      rcases hu with rfl | rfl | rfl | rfl
      · (have : some w4.heap.size = some b := hb); injection this; omega
      · cases hb
      · cases hb
      · cases hb
    have HOUT := Lib.hid (M6.out.out HR6.out (by omega) (by omega) (by omega) hR2)
    dsimp only at HOUT
    have hnew := fun u hu b hb => (M6.out.new u hu b hb).1
    have hfar := M6.out.far
    go_wp2_with fail
    obtain ⟨hB, hO, hCc, hG⟩ := HOUT.out
    obtain ⟨⟨e0, e1, e2, e3⟩, e4, e5, e6, e7⟩ := cells8 (q := ⟨⟨nm0 ++ it, 10, 0, false, [UInt8.ofNat y], [], [], []⟩, .slice (some ⟨w4.heap.size, 0, none⟩) 1 1, .slice none 0 0, .slice none 0 0, .slice none 0 0⟩) hB
    dsimp only at e0 e1 e2 e3 e4 e5 e6 e7
    refine bodyPost_ret (v := vrule ⟨nm0 ++ it, 10, 0, false, [UInt8.ofNat y], [], [], []⟩ (.slice (some ⟨w4.heap.size, 0, none⟩) 1 1) (.slice none 0 0) (.slice none 0 0) (.slice none 0 0)) (by simp [results, Try.results37, go_sem, e0, e1, e2, e3, e4, e5, e6, e7, vrule]) rfl ?_
    exact ⟨_, rfl, ⟨by show (nm0 ++ it).size ≤ 40; omega, by simp, by simp, by simp; try omega⟩, rfl, made_term HNM.out HY92.out, hO, hfar, hnew, hCc, hG⟩
  · go_wp2_with fail
    rw [← HW3.out]
    refine (CBe.out 3 _ M0.out.cur (by omega)).mono ?_; rintro _ w4 ⟨y, hy, rfl, hC4, hg4⟩
    have hyn : y < 3 := by unfold below at hy; rw [if_neg (by omega)] at hy; omega
    have M4 := M0.out.moved hC4 hg4
    have HR4 := Lib.hid (HR3.out.moved hg4 (some_ne (by omega)))
    have CB := l1Bytes_c (1 + y) (by omega) wb w4 p A l c hA hC4
    rw [show ((1 + y : Nat) : Int) = 1 + (y : Int) by omega] at CB
    have CB := Lib.hid CB
    have hgl4 := M4.box.lt; have hpl4 := hC4.lt
    go_wp2_with fail
    refine CB.out.mono ?_; rintro _ w5 ⟨vb, qb, hqb, rfl, ho5, hn5, hC5, hg5⟩
    obtain ⟨A5, c5, rfl, _⟩ := OwnL.rd ho5 (by omega)
    replace hqb := Lib.hid hqb
    have M5 := M4.moved hC5 hg5
    have HR5 := Lib.hid (HR4.out.moved hg5 (some_ne (by omega)))
    have z7 : _ = some (Value.slice none 0 0) := M5.box.cell 4
    have y7 := M5.box.free 4
    have M6 := Lib.hid (M5.fresh_b ho5 (n0 := w4.heap.size) hn5 (by simp [RV.vals, Value.ownBlock]) (by omega) (by omega) (by have := M4.grow.size; omega))
    have HR6 := Lib.hid (HR5.out.other (g' := w2.heap.size) (by omega) 4 (.slice A5 qb.length c5))
    have hn5' : Hid (∀ g, (Value.slice A5 qb.length c5).ownBlock = some g → w.heap.size + 1 < g) := fun g hg => by have := hn5 g hg; omega
    clear M4 M5 ho5 hn5 hC4 hg4 HR4 HR5 hC5 hg5 CB
    obtain ⟨⟨a0, a1, a2, a3⟩, a4, a5, a6, a7⟩ := cells8 M6.out.box
    obtain ⟨⟨b0, b1, b2, b3⟩, b4, b5, b6, b7⟩ := cells8 (q := ⟨⟨⟨#[]⟩, 0, 0, false, [], [], [], []⟩, .slice none 0 0, .slice none 0 0, .slice none 0 0, .slice none 0 0⟩) HR6.out
    obtain ⟨⟨d0, d1, d2, d3⟩, d4, d5, d6, d7⟩ := frees8 HR6.out
    dsimp only at a0 a1 a2 a3 a4 a5 a6 a7 b0 b1 b2 b3 b4 b5 b6 b7
    have hR2 : ∀ u ∈ RV.vals ⟨⟨nm0 ++ it, 2, 0, false, qb, [], [], []⟩, .slice A5 qb.length c5, .slice none 0 0, .slice none 0 0, .slice none 0 0⟩, ∀ b, u.ownBlock = some b → b ≠ w.heap.size + 1 := by
      intro u hu b hb
      simp only [RV.vals, List.mem_cons, List.not_mem_nil, or_false] at hu
      rcases hu with rfl | rfl | rfl | rfl
      · have := hn5'.out b hb; omega
      · cases hb
      · cases hb
      · cases hb
    have HOUT := Lib.hid (M6.out.out HR6.out (by omega) (by omega) (by omega) hR2)
    dsimp only at HOUT
    have hnew := fun u hu b hb => (M6.out.new u hu b hb).1
    have hfar := M6.out.far
    go_wp2_with fail
    obtain ⟨hB, hO, hCc, hG⟩ := HOUT.out
    obtain ⟨⟨e0, e1, e2, e3⟩, e4, e5, e6, e7⟩ := cells8 (q := ⟨⟨nm0 ++ it, 2, 0, false, qb, [], [], []⟩, .slice A5 qb.length c5, .slice none 0 0, .slice none 0 0, .slice none 0 0⟩) hB
    dsimp only at e0 e1 e2 e3 e4 e5 e6 e7
    refine bodyPost_ret (v := vrule ⟨nm0 ++ it, 2, 0, false, qb, [], [], []⟩ (.slice A5 qb.length c5) (.slice none 0 0) (.slice none 0 0) (.slice none 0 0)) (by simp [results, Try.results37, go_sem, e0, e1, e2, e3, e4, e5, e6, e7, vrule]) rfl ?_
    exact ⟨_, rfl, ⟨by show (nm0 ++ it).size ≤ 40; omega, by have := hqb.out; simp; omega, by simp, by simp; try omega⟩, rfl, made_const HNM.out (by rw [hqb.out]; omega) (by rw [hqb.out]; omega), hO, hfar, hnew, hCc, hG⟩
  · have zp : _ = some (Value.slice Ad ds.length cd) := HP3.out.cell 0
    rw [HW3.out] at zp
    have hki' := hki.out.resolve_left (by omega)
    have hds0 : 0 < ds.length := by obtain ⟨i, hi, _⟩ := hki'; omega
    have CI := Lib.hid (l4Integer_c Ad ds cd hds0 hDn hki' wb W3 p A l c hA M0.out.cur (HD.out _ M0.out.grow))
    unfold vdesc at CI
    clear hki' hki
    go_wp2_with fail
    rw [← HW3.out]
    refine CI.out.mono ?_; rintro _ w4 ⟨x, hx, hxk, rfl, hC4, hg4⟩
    have HXK := Lib.hid hxk; have HXL := Lib.hid hx; clear CI zp hxk
    have M4 := M0.out.moved hC4 hg4
    have HR4 := Lib.hid (HR3.out.moved hg4 (some_ne (by omega)))
    have x5 := Ext_alloc (.cells #[.int .i64 x] 3) (Ext.refl w4)
    have ho5 := OwnL.lit (f := vint) (e := 3) hC4.2.1 [(x : Int)] #[.int .i64 x] rfl 1 rfl (by omega)
    have M5 := M4.ext x5
    have z7 : _ = some (Value.slice none 0 0) := M5.box.cell 7
    have y7 := M5.box.free 7
    have hgl4 := M4.box.lt; have hpl4 := hC4.lt
    have M6 := Lib.hid (M5.fresh_k ho5 (n0 := w4.heap.size) (fun b hb => by injection hb with hb; simp at hb; omega) (by simp [RV.vals, Value.ownBlock]) (by omega) (by omega) (by have := M4.grow.size; omega))
    have HR6 := Lib.hid ((HR4.out.ext x5).other (g' := w2.heap.size) (by omega) 7 (.slice (some ⟨w4.heap.size, 0, none⟩) 1 1))
    have hcm := World.setCell_alloc_past (w := w4) (.cells #[.int .i64 x] 3) w2.heap.size 7 (.slice (some ⟨w4.heap.size, 0, none⟩) 1 1) (by omega)
    rw [hcm] at M6 HR6
    clear M4 M5 ho5 x5 hC4 hg4 HR4 hcm
    obtain ⟨⟨a0, a1, a2, a3⟩, a4, a5, a6, a7⟩ := cells8 M6.out.box
    obtain ⟨⟨b0, b1, b2, b3⟩, b4, b5, b6, b7⟩ := cells8 (q := ⟨⟨⟨#[]⟩, 0, 0, false, [], [], [], []⟩, .slice none 0 0, .slice none 0 0, .slice none 0 0, .slice none 0 0⟩) HR6.out
    obtain ⟨⟨d0, d1, d2, d3⟩, d4, d5, d6, d7⟩ := frees8 HR6.out
    dsimp only at a0 a1 a2 a3 a4 a5 a6 a7 b0 b1 b2 b3 b4 b5 b6 b7
    have hR2 : ∀ u ∈ RV.vals ⟨⟨nm0 ++ it, 4, 0, false, [], [], [], [(x : Int)]⟩, .slice none 0 0, .slice none 0 0, .slice none 0 0, .slice (some ⟨w4.heap.size, 0, none⟩) 1 1⟩, ∀ b, u.ownBlock = some b → b ≠ w.heap.size + 1 := by
      intro u hu b hb
      simp only [RV.vals, List.mem_cons, List.not_mem_nil, or_false] at hu
      rcases hu with rfl | rfl | rfl | rfl
      · cases hb
      · cases hb
      · cases hb
      · (have : some w4.heap.size = some b := hb); injection this; omega
    have HOUT := Lib.hid (M6.out.out HR6.out (by omega) (by omega) (by omega) hR2)
    dsimp only at HOUT
    have hnew := fun u hu b hb => (M6.out.new u hu b hb).1
    have hfar := M6.out.far
    go_wp2_with fail
    obtain ⟨hB, hO, hCc, hG⟩ := HOUT.out
    obtain ⟨⟨e0, e1, e2, e3⟩, e4, e5, e6, e7⟩ := cells8 (q := ⟨⟨nm0 ++ it, 4, 0, false, [], [], [], [(x : Int)]⟩, .slice none 0 0, .slice none 0 0, .slice none 0 0, .slice (some ⟨w4.heap.size, 0, none⟩) 1 1⟩) hB
    dsimp only at e0 e1 e2 e3 e4 e5 e6 e7
    refine bodyPost_ret (v := vrule ⟨nm0 ++ it, 4, 0, false, [], [], [], [(x : Int)]⟩ (.slice none 0 0) (.slice none 0 0) (.slice none 0 0) (.slice (some ⟨w4.heap.size, 0, none⟩) 1 1)) (by simp [results, Try.results37, go_sem, e0, e1, e2, e3, e4, e5, e6, e7, vrule]) rfl ?_
    exact ⟨_, rfl, ⟨by show (nm0 ++ it).size ≤ 40; omega, by simp, by simp, by simp; omega⟩, rfl, made_sized HNM.out hMD.out HXL.out HXK.out, hO, hfar, hnew, hCc, hG⟩
  · have zp : _ = some (Value.slice Ad ds.length cd) := HP3.out.cell 0
    rw [HW3.out] at zp
    have hki' := hki.out.resolve_left (by omega)
    have hds0 : 0 < ds.length := by obtain ⟨i, hi, _⟩ := hki'; omega
    have CI := Lib.hid (l4Integer_c Ad ds cd hds0 hDn hki' wb W3 p A l c hA M0.out.cur (HD.out _ M0.out.grow))
    unfold vdesc at CI
    clear hki' hki
    go_wp2_with fail
    rw [← HW3.out]
    refine CI.out.mono ?_; rintro _ w3' ⟨x, hx, hxk, rfl, hC3, hg3⟩
    have HXK := Lib.hid hxk; have HXL := Lib.hid hx; clear CI zp hxk
    have M3 := Lib.hid (M0.out.moved hC3 hg3)
    have HR3' := Lib.hid (HR3.out.moved hg3 (some_ne (by omega)))
    go_wp2_with fail
    refine (CBe.out ds.length _ M3.out.cur (by omega)).mono ?_; rintro _ w4 ⟨y, hy, rfl, hC4, hg4⟩
    have HYL : Hid (y < ds.length) := by show _ < _; unfold below at hy; rw [if_neg (by omega)] at hy; omega
    have hyn : y ≤ 64 := by have := HYL.out; omega
    have M4 := M3.out.moved hC4 hg4
    have HR4 := Lib.hid (HR3'.out.moved hg4 (some_ne (by omega)))
    clear M3 HR3'
    have x5 := Ext_alloc (.cells #[.int .i64 x, .int .i64 y] 3) (Ext.refl w4)
    have ho5 := OwnL.lit (f := vint) (e := 3) hC4.2.1 [(x : Int), (y : Int)] #[.int .i64 x, .int .i64 y] rfl 2 rfl (by omega)
    have M5 := M4.ext x5
    have z7 : _ = some (Value.slice none 0 0) := M5.box.cell 7
    have y7 := M5.box.free 7
    have hgl4 := M4.box.lt; have hpl4 := hC4.lt
    have M6 := Lib.hid (M5.fresh_k ho5 (n0 := w4.heap.size) (fun b hb => by injection hb with hb; simp at hb; omega) (by simp [RV.vals, Value.ownBlock]) (by omega) (by omega) (by have := M4.grow.size; omega))
    have HR6 := Lib.hid ((HR4.out.ext x5).other (g' := w2.heap.size) (by omega) 7 (.slice (some ⟨w4.heap.size, 0, none⟩) 2 2))
    have hcm := World.setCell_alloc_past (w := w4) (.cells #[.int .i64 x, .int .i64 y] 3) w2.heap.size 7 (.slice (some ⟨w4.heap.size, 0, none⟩) 2 2) (by omega)
    rw [hcm] at M6 HR6
    clear M4 M5 ho5 x5 hC4 hg4 HR4 hcm
    obtain ⟨⟨a0, a1, a2, a3⟩, a4, a5, a6, a7⟩ := cells8 M6.out.box
    obtain ⟨⟨b0, b1, b2, b3⟩, b4, b5, b6, b7⟩ := cells8 (q := ⟨⟨⟨#[]⟩, 0, 0, false, [], [], [], []⟩, .slice none 0 0, .slice none 0 0, .slice none 0 0, .slice none 0 0⟩) HR6.out
    obtain ⟨⟨d0, d1, d2, d3⟩, d4, d5, d6, d7⟩ := frees8 HR6.out
    dsimp only at a0 a1 a2 a3 a4 a5 a6 a7 b0 b1 b2 b3 b4 b5 b6 b7
    have hR2 : ∀ u ∈ RV.vals ⟨⟨nm0 ++ it, 5, 0, false, [], [], [], [(x : Int), (y : Int)]⟩, .slice none 0 0, .slice none 0 0, .slice none 0 0, .slice (some ⟨w4.heap.size, 0, none⟩) 2 2⟩, ∀ b, u.ownBlock = some b → b ≠ w.heap.size + 1 := by
      intro u hu b hb
      simp only [RV.vals, List.mem_cons, List.not_mem_nil, or_false] at hu
      rcases hu with rfl | rfl | rfl | rfl
      · cases hb
      · cases hb
      · cases hb
      · (have : some w4.heap.size = some b := hb); injection this; omega
    have HOUT := Lib.hid (M6.out.out HR6.out (by omega) (by omega) (by omega) hR2)
    dsimp only at HOUT
    have hnew := fun u hu b hb => (M6.out.new u hu b hb).1
    have hfar := M6.out.far
    go_wp2_with fail
    obtain ⟨hB, hO, hCc, hG⟩ := HOUT.out
    obtain ⟨⟨e0, e1, e2, e3⟩, e4, e5, e6, e7⟩ := cells8 (q := ⟨⟨nm0 ++ it, 5, 0, false, [], [], [], [(x : Int), (y : Int)]⟩, .slice none 0 0, .slice none 0 0, .slice none 0 0, .slice (some ⟨w4.heap.size, 0, none⟩) 2 2⟩) hB
    dsimp only at e0 e1 e2 e3 e4 e5 e6 e7
    refine bodyPost_ret (v := vrule ⟨nm0 ++ it, 5, 0, false, [], [], [], [(x : Int), (y : Int)]⟩ (.slice none 0 0) (.slice none 0 0) (.slice none 0 0) (.slice (some ⟨w4.heap.size, 0, none⟩) 2 2)) (by simp [results, Try.results37, go_sem, e0, e1, e2, e3, e4, e5, e6, e7, vrule]) rfl ?_
    exact ⟨_, rfl, ⟨by show (nm0 ++ it).size ≤ 40; omega, by simp, by simp, by simp; omega⟩, rfl, made_array HNM.out hMD.out HXL.out HXK.out HYL.out, hO, hfar, hnew, hCc, hG⟩
end Go.Proofs.Ytophjmphjdhjoaa

/- CrashLog of the reference; AppendRecord of both. -/
namespace Go.Proofs.Ytophjmphjdhjoaa
open Go.RowKit Go.Sort

end Go.Proofs.Ytophjmphjdhjoaa

/- AppendRecord of the program and of the reference. -/
namespace Go.Proofs.Ytophjmphjdhjoaa
open Go.RowKit Go.Sort

section
variable {P : Program} {ops : Array Oper} {o : Oper} {a : Act} {Q : Exit → Act → World → Prop} {K : Act → World → Prop} {E : Prop}
/-- append(s, ys...) in a region that draws, with what becomes of the block -/
theorem step_appG (hgd : o.guard = none) (s x : Operand) (t : TypeId) (ho : o.op = .call { callee := .builtin .append, args := #[s, x], argTypes := #[t, t] })
    {e : TypeId} {bytes : Nat} {z : Value} (hE : Elem P t e 1 bytes z) (hby : 1 ≤ bytes) (w0 w : World) {α : Type} (f : α → Value) (hf : ∀ x, (f x).oneCell' = true) (v : Value) (hs : a.eval s = v) (A : Option Addr) (m c : Nat) (hx : a.eval x = .slice A m c)
    (l ys : List α) (hown : OwnL f e w0 w v l) (he : Ext w0 w) (hm : m = ys.length)
    (hA : 0 < ys.length → ∃ ad, A = some ad ∧ ∀ j u, (ys.map f)[j]? = some u → w.cell? (ad.add j) = some u)
    (hb : (l.length + ys.length) * bytes ≤ 140737488355328)
    (h : ∀ v' w', OwnL f e w0 w' v' (l ++ ys) → Ext w0 w' → (v'.ownBlock = v.ownBlock ∨ v'.ownBlock = some w.heap.size) → w.grownBy w' v.ownBlock → K (a.put o.dst v') w') :
    if Region.wanted o (yielded ops a.tmps) = true then Oper.wp P o a w K Q else E := by
  have hw : Region.wanted o (yielded ops a.tmps) = true := by simp [Region.wanted, hgd]
  rw [if_pos hw]
  obtain ⟨i0, hi0, hz0, hz1, hz2⟩ := info_parts hE.hi
  subst hm
  have hfin : ∀ v' w', Own e 1 w0 w' v' (l.length + ys.length) (l.map f ++ ys.map f) → Ext w0 w' → (v'.ownBlock = v.ownBlock ∨ v'.ownBlock = some w.heap.size) → w.grownBy w' v.ownBlock → K (a.put o.dst v') w' := fun v' w' h1 h2 h3 h4 => h v' w' (by simpa [OwnL] using h1) h2 h3 h4
  rcases A with _ | ad
  · have hm0 : ys.length = 0 := by
      rcases Nat.eq_zero_or_pos ys.length with h0 | h0
      · exact h0
      · obtain ⟨ad, h, _⟩ := hA h0
        cases h
    obtain rfl : ys = [] := List.eq_nil_of_length_eq_zero hm0
    unfold Oper.wp execOp
    simp only [ho, resolve, invoke, builtin, Sem.run_bind, Sem.run_pure, Result.andThen_ok, List.map_toArray, List.map_cons, List.map_nil, List.length_nil, hs, hx, run_app_nil w w0.heap.size t o.type e i0 1 hE.ht hi0 v l.length (l.map f) hown c]
    exact hfin v w (by have h' := hown; unfold OwnL at h'; simpa using h') he (.inl rfl) (World.grownBy.refl w _)
  · obtain ⟨v', w', hr, h2, h3, h4, h5⟩ := run_append_own_at (P := P) w w0.heap.size t o.type e i0 z 1 bytes hE.ht hi0 hz0 hz1 hz2 hE.hz hE.hs v l.length (l.map f) hown ad ys.length c (ys.map f) (by simp)
      (fun j u hu => by
        rcases Nat.eq_zero_or_pos ys.length with h0 | h0
        · obtain rfl : ys = [] := List.eq_nil_of_length_eq_zero h0
          simp at hu
        · obtain ⟨ad', h', hc⟩ := hA h0
          injection h' with h'
          subst h'
          exact hc j u hu)
      (fun u hu => by obtain ⟨x, _, rfl⟩ := List.mem_map.1 hu; exact hf x) (by have := Nat.mul_le_mul_left (l.length + ys.length) hby; simp only [maxLen]; omega) hb he.size
    unfold Oper.wp execOp
    simp only [ho, resolve, invoke, builtin, Sem.run_bind, Sem.run_pure, Result.andThen_ok, List.map_toArray, List.map_cons, List.map_nil, hs, hx, hr]
    exact hfin v' w' h2 (he.grown h3 (fun k hk => (hown.lt k hk).1)) h5 h3
end
def appOk (l : List UInt8) (s k : Int) (nm : ByteArray) (ver : Int) (d : List UInt8) : Bool := validLog l s && validRec k nm ver d.length
def appBytes (l : List UInt8) (s k : Int) (nm : ByteArray) (ver : Int) (d : List UInt8) : List UInt8 := if appOk l s k nm ver d then l ++ encRec k nm ver d else l


end Go.Proofs.Ytophjmphjdhjoaa

/- Draws of descriptions: l4Make at kind 6. (Printed by gen/gx22.py.) -/
namespace Go.Proofs.Ytophjmphjdhjoaa
open Go.RowKit Go.Sort

theorem l1StrBox_c (ns : List ByteArray) (hns : 0 < ns.length) (hns2 : ns.length ≤ 256) (n : Nat) (hn : n = ns.length) (cs : Array Value) (hcs : cs = (ns.map vstr).toArray) (wb w : World) (p : Nat) (A : Option Addr) (l : List UInt8) (c : Nat) (hA : Bs wb A l c) (b : Nat) (hC : Cur wb w p A l c) (hb : Box w b cs 9) :
    Calls Try.prog 26 #[.pointer (some ⟨p, 0, none⟩), .slice (some ⟨b, 0, none⟩) n n] w fun e w' => ∃ x ∈ ns, e = .returned (.string x) ∧ Cur wb w' p A l c ∧ w.grownBy w' (some p) := by
  subst hn; subst hcs
  have hbp : p ≠ b := by
    rintro rfl
    obtain ⟨_, _, i, x, _, h4⟩ := hC
    have h5 : w.heap[p]? = _ := hb
    rw [h5] at h4
    injection h4 with h4
    injection h4 with _ h7
    exact absurd h7 (by decide)
  refine (l1Str_c (some ⟨b, 0, none⟩) ns ns.length hns hns2 wb _ p A l c hA hC ?_).mono ?_
  · intro w' hg i hi
    refine ⟨b, 0, rfl, ?_⟩
    rw [(hb.moved hg (some_ne hbp)).cell (0 + i), Nat.zero_add]
    simp [vstr, hi]
  · rintro e w' ⟨x, hx, he, hC1, hg⟩
    exact ⟨x, hx, he, hC1, hg⟩
theorem Box.newd (w : World) (cs : Array Value) (T : TypeId) : Box (w.alloc (.cells cs T)).drew w.heap.size cs T := (Box.new w cs T).ext (Ext_drew (Ext.refl _))
set_option maxRecDepth 100000 in
set_option maxHeartbeats 8000000 in
theorem l4Make6_c (Ad : Option Addr) (ds : List DRule) (cd : Nat) (kind : Int) (hkind : kind = 6) (hDn : ds.length ≤ 64) (hki : kind = 1 ∨ ∃ i, ∃ h : i < ds.length, ds[i].kind = 1) (hMD : MadeD ds)
    (wb w : World) (p : Nat) (A : Option Addr) (l : List UInt8) (c : Nat) (hA : Bs wb A l c) (hC : Cur wb w p A l c) (hD : ∀ w', w.grownBy w' (some p) → RdD w' Ad ds cd) :
    Calls Try.prog 37 #[.pointer (some ⟨p, 0, none⟩), vdesc (.slice Ad ds.length cd), .int .i64 kind] w fun e w' => ∃ q : RV, e = .returned (vrule q.r q.vb q.vn q.vt q.vk) ∧ SmallR q.r ∧ q.r.kind = kind ∧ MadeR ds q.r ∧ RuleOwn wb w' q ∧ Far q.vals ∧ (∀ u ∈ q.vals, ∀ b, u.ownBlock = some b → w.heap.size ≤ b) ∧ Cur wb w' p A l c ∧ w.grownBy w' (some p) := by
  have hplt := hC.lt
  have hbw := hC.2.1.size
  have CBe := Lib.hid (fun n w h hn => l1Below_c n wb w p A l c hA h hn)
  have COn := Lib.hid (fun n w h hn => l1Once_c n wb w p A l c hA h hn)
  have CS := Lib.hid (fun w h => l1StrLit_c [⟨#[97]⟩, ⟨#[105, 116, 101, 109]⟩, ⟨#[98]⟩, ⟨#[104, 101, 97, 100]⟩, ⟨#[120]⟩] (by simp) (by simp) 5 rfl #[.string ⟨#[97]⟩, .string ⟨#[105, 116, 101, 109]⟩, .string ⟨#[98]⟩, .string ⟨#[104, 101, 97, 100]⟩, .string ⟨#[120]⟩] rfl wb w p A l c hA h)
  have CF := Lib.hid (fun w => sFormatInt_c (ds.length : Int) w (by omega) (by omega))
  have hit := itoa_size (ds.length : Int) (by omega) (by omega)
  obtain ⟨it, hit0⟩ : ∃ it, itoaB (ds.length : Int) = it := ⟨_, rfl⟩
  rw [hit0] at hit CF
  have HIT := Lib.hid hit0
  clear hit0
  have HD := Lib.hid hD; have hki := Lib.hid hki; have hMD := Lib.hid hMD
  clear hD
  obtain ⟨W0, hW0, HP, HR, e0, hsA⟩ := boxes2' w #[.slice Ad ds.length cd] #[.string ⟨#[]⟩, .int .i64 0, .int .i64 0, .bool false, .slice none 0 0, .slice none 0 0, .slice none 0 0, .slice none 0 0] 26 35
  unfold vdesc
  go_enter Try.func37, Try.ntmps37
  go_wp2_with fail
  rw [← hW0.out]
  have C1 := CS.out W0 (hC.ext e0)
  rw [hsA] at C1
  have C1 := Lib.hid C1
  refine C1.out.mono ?_; rintro _ w1 ⟨nm0, hnm0, rfl, hC1, hg1⟩
  have HNM : Hid (∃ s ∈ heads, nm0 ++ it = s ++ itoaB (ds.length : Int)) := ⟨nm0, hnm0, by rw [HIT.out]⟩
  have hnm : nm0.size ≤ 4 := by simp at hnm0; rcases hnm0 with rfl | rfl | rfl | rfl | rfl <;> decide
  have G1 := (grown_ext e0 (some p)).trans hg1
  have HP1 := Lib.hid (HP.moved hg1 (some_ne (by omega)))
  have HR1 := Lib.hid (HR.moved hg1 (some_ne (by omega)))
  clear hnm0 hg1 C1 CS HP HR e0
  go_wp2_with fail
  refine (CF.out _).mono ?_; rintro _ w2 ⟨rfl, s2⟩
  have G2 := Lib.hid (G1.trans (grown_ext s2 _))
  have HP2 := Lib.hid (HP1.out.ext s2); have HR2 := Lib.hid (HR1.out.ext s2); have hC2 := hC1.ext s2
  clear G1 HP1 HR1 hC1 s2
  have hnl : (nm0 ++ it).size ≤ 24 := by have := ByteArray.size_append (a := nm0) (b := it); omega
  have x3 := Ext_alloc (.cells #[.string (nm0 ++ it), .int .i64 kind, .int .i64 0, .bool false, .slice none 0 0, .slice none 0 0, .slice none 0 0, .slice none 0 0] 35) (Ext.refl w2)
  have hgs := G2.out.size
  have M0 : Hid (Mk wb w (w2.alloc (.cells #[.string (nm0 ++ it), .int .i64 kind, .int .i64 0, .bool false, .slice none 0 0, .slice none 0 0, .slice none 0 0, .slice none 0 0] 35)) p A l c w2.heap.size ⟨⟨nm0 ++ it, kind, 0, false, [], [], [], []⟩, .slice none 0 0, .slice none 0 0, .slice none 0 0, .slice none 0 0⟩) :=
    ⟨Box.new w2 _ _, ⟨OwnL.nil _ _, OwnL.nil _ _, OwnL.nil _ _, OwnL.nil _ _⟩, by simp [Far, RV.vals, Value.ownBlock], by simp [RV.vals, Value.ownBlock], hC2.ext x3, G2.out.trans (grown_ext x3 _), hgs, by omega, by omega⟩
  have HP3 := Lib.hid (HP2.out.ext x3); have HR3 := Lib.hid (HR2.out.ext x3)
  have hlt2 : w.heap.size + 1 < w2.heap.size := HR2.out.lt
  clear HP2 HR2 hC2 G2 x3 CF
  obtain ⟨W3, hW3⟩ : ∃ W3, W3 = w2.alloc (.cells #[.string (nm0 ++ it), .int .i64 kind, .int .i64 0, .bool false, .slice none 0 0, .slice none 0 0, .slice none 0 0, .slice none 0 0] 35) := ⟨_, rfl⟩
  rw [← hW3] at M0 HP3 HR3
  have HW3 := Lib.hid hW3; clear hW3
  subst hkind
  have hds0 : 0 < ds.length := by obtain ⟨i, hi, _⟩ := hki.out.resolve_left (by omega); omega
  clear hki HP3 HD
  go_wp2_with fail
  rw [← HW3.out]
  refine (CBe.out 3 _ M0.out.cur (by omega)).mono ?_; rintro _ w4 ⟨y, hy, rfl, hC4, hg4⟩
  have hyn : y < 3 := by unfold below at hy; rw [if_neg (by omega)] at hy; omega
  have S4 : Hid (MS wb w w4 p A l c w2.heap.size ⟨⟨nm0 ++ it, 6, 0, false, [], [], [], []⟩, .slice none 0 0, .slice none 0 0, .slice none 0 0, .slice none 0 0⟩ (w.heap.size + 1)) :=
    ⟨M0.out.moved hC4 hg4, HR3.out.moved hg4 (some_ne (by omega)), by simp [RV.vals, Value.ownBlock], by omega, by omega⟩
  clear hy hC4 hg4 HR3 M0 HW3
  generalize hgg : w2.heap.size = g at *
  clear hgg
  have CS3 := Lib.hid (fun w b h hb => l1StrBox_c [⟨#[112]⟩, ⟨#[113]⟩, ⟨#[114]⟩] (by simp) (by simp) 3 rfl #[.string ⟨#[112]⟩, .string ⟨#[113]⟩, .string ⟨#[114]⟩] rfl wb w p A l c hA b h hb)
  go_wp2
  go_loopw [9] (fun t wr => ∃ (i : Nat) (r : DRule) (vb vn vt vk : Value), i ≤ 3 ∧ t = .int .i64 i ∧ Hid (r.nm = nm0 ++ it ∧ r.kind = 6 ∧ r.size = 0 ∧ r.bytes = [] ∧ r.tags = [] ∧ r.little = false) ∧ Hid ((r.names.length + i = 1 + y ∧ r.kids.length + i = 1 + y) ∧ (∀ t ∈ r.names, t.size ≤ 40) ∧ (∀ x ∈ r.kids, 0 ≤ x ∧ x < (ds.length : Int)) ∧ SeqInv i r.names) ∧ Hid (MS wb w wr p A l c g ⟨r, vb, vn, vt, vk⟩ (w.heap.size + 1))) (fun t _ => (intOf t).toNat)
  case atStart => exact ⟨1 + y, _, _, _, _, _, by omega, by simp, ⟨rfl, rfl, rfl, rfl, rfl, rfl⟩, ⟨⟨by simp, by simp⟩, by simp, by simp, SeqInv.nil _⟩, S4⟩
  case round =>
    clear S4
    obtain ⟨i, r, vb, vn, vt, vk, hi3, rfl, hr, hl, hM⟩ := hrel
    by_cases hi0 : 0 < i
    · have CF3 := Lib.hid (fun w => sFormatInt_c (i : Int) w (by omega) (by omega))
      have hit3 := itoa_size (i : Int) (by omega) (by omega)
      obtain ⟨it3, hit0⟩ : ∃ it3, itoaB (i : Int) = it3 := ⟨_, rfl⟩
      rw [hit0] at hit3 CF3
      have HIT3 := Lib.hid hit0
      clear hit0
      have hMd := Lib.hid (hM.out.ext (Ext_drew (Ext.refl wr)))
      have cd0 : _ = some vn := hM.out.M.box.cell 5
      have cd1 : _ = some vn := (hM.out.ext (Ext_drew (Ext_alloc (.cells #[.string ⟨#[112]⟩, .string ⟨#[113]⟩, .string ⟨#[114]⟩] 9) (Ext.refl wr)))).M.box.cell 5
      have HBn : Hid (∀ s : ByteArray, (r.names.length + [s].length) * 16 ≤ 140737488355328) := fun s => by have := hl.out.1.1; simp; omega
      have HLn : Hid (∀ s : ByteArray, (r.names ++ [s]).length ≤ 140737488351232) := fun s => by have := hl.out.1.1; simp; omega
      have hS3 : Hid (∀ s : ByteArray, s ∈ [(⟨#[112]⟩ : ByteArray), ⟨#[113]⟩, ⟨#[114]⟩] → s.size ≤ 4) := fun s h => by simp only [List.mem_cons, List.not_mem_nil, or_false] at h; rcases h with rfl | rfl | rfl <;> decide
      go_wp2_with fail
      go_cut [86] from 77 to 87 (fun _ wx => ∃ s v, s.size ≤ 40 ∧ Hid (SeqInv (i - 1) (r.names ++ [s])) ∧ Hid (MS wb w wx p A l c g ⟨{ r with names := r.names ++ [s] }, vb, v, vt, vk⟩ (w.heap.size + 1)))
      case first =>
        go_region_law (first
          | (go_simp; go_at_call 26; refine (CS3.out _ _ (hMd.out.ext (Ext_alloc _ (Ext.refl _))).M.cur (Box.new _ _ _)).mono ?_; rintro _ w5 ⟨s5, hs5, rfl, hC5, hg5⟩; have M5 := Lib.hid ((hMd.out.ext (Ext_alloc (.cells #[.string ⟨#[112]⟩, .string ⟨#[113]⟩, .string ⟨#[114]⟩] 9) (Ext.refl _))).moved hC5 hg5); have c5 : _ = some vn := M5.out.M.box.cell 5; have hs5b := hS3.out _ hs5; have HS5 := Lib.hid hs5; have hcat : ¬ 9223372036854775807 < s5.size + it3.size := (by omega); clear hs5 hC5 hg5)
          | (go_simp; go_at_call 54; refine (CF3.out _).mono ?_; rintro _ w6 ⟨rfl, e6⟩; have M6 := Lib.hid (M5.out.ext e6); have c6 : _ = some vn := M6.out.M.box.cell 5; have M6' := Lib.hid (M6.out.ext (Ext_alloc (.cells #[.string (s5 ++ it3)] 9) (Ext.refl _))); have c6' : _ = some vn := M6'.out.M.box.cell 5; clear M5 e6)
          | (refine step_appG rfl (.tmp 78) (.tmp 85) _ rfl E_str (by omega) wb _ vstr (fun _ => rfl) vn rfl (some ⟨w6.heap.size, 0, none⟩) 1 1 rfl r.names [s5 ++ it3] M6'.out.M.own.n M6'.out.M.cur.2.1 rfl (fun _ => ⟨_, rfl, fun j u hu => (World.cell?_alloc_at' w6 [.string (s5 ++ it3)] 9 j).trans hu⟩) (HBn.out _) ?_; intro v7 w7 ho7 he7 hv7 hg7; obtain ⟨A7, c7, hsh, _⟩ := OwnL.rd ho7 (HLn.out _); replace hsh : v7 = .slice A7 (r.names.length + 1) c7 := (by rw [hsh, List.length_append]; rfl); subst hsh; obtain ⟨⟨z7, y7⟩, M7⟩ := M6'.out.app_n ho7 he7 hv7 hg7; clear ho7 he7 hv7 hg7; have M7 := Lib.hid M7))
        all_goals
          go_wp2_with fail
          go_meet
          exact ⟨s5 ++ it3, _, by have := ByteArray.size_append (a := s5) (b := it3); omega, by rw [← HIT3.out]; exact hl.out.2.2.2.snoc HS5.out hi0 (by omega), M7⟩
      case rest =>
        obtain ⟨s, v, hs, hSI, hM'⟩ := hcut
        clear hM hMd cd0 cd1 HBn HLn hS3 CF3 hit3
        have hMd := Lib.hid (hM'.out.ext (Ext_drew (Ext.refl wc)))
        have cd0 : _ = some vk := hM'.out.M.box.cell 7
        have HBn : Hid (∀ x : Int, (r.kids.length + [x].length) * 8 ≤ 140737488355328) := fun s => by have := hl.out.1.2; simp; omega
        have HLn : Hid (∀ x : Int, (r.kids ++ [x]).length ≤ 140737488351232) := fun s => by have := hl.out.1.2; simp; omega
        go_wp2_with fail
        go_region_law (first
          | (go_simp; go_at_call 20; refine (CBe.out ds.length _ hMd.out.M.cur (by omega)).mono ?_; rintro _ w5 ⟨x, hx, rfl, hC5, hg5⟩; have M5 := Lib.hid (hMd.out.moved hC5 hg5); have c5 : _ = some vk := M5.out.M.box.cell 7; have M5' := Lib.hid (M5.out.ext (Ext_alloc (.cells #[.int .i64 x] 3) (Ext.refl _))); have c5' : _ = some vk := M5'.out.M.box.cell 7; clear hC5 hg5)
          | (refine step_appG rfl (.tmp 89) (.tmp 93) _ rfl E_int (by omega) wb _ vint (fun _ => rfl) vk rfl (some ⟨w5.heap.size, 0, none⟩) 1 1 rfl r.kids [(x : Int)] M5'.out.M.own.k M5'.out.M.cur.2.1 rfl (fun _ => ⟨_, rfl, fun j u hu => (World.cell?_alloc_at' w5 [.int .i64 x] 3 j).trans hu⟩) (HBn.out _) ?_; intro v7 w7 ho7 he7 hv7 hg7; obtain ⟨A7, c7, hsh, _⟩ := OwnL.rd ho7 (HLn.out _); replace hsh : v7 = .slice A7 (r.kids.length + 1) c7 := (by rw [hsh, List.length_append]; rfl); subst hsh; obtain ⟨⟨z7, y7⟩, M7⟩ := M5'.out.app_k ho7 he7 hv7 hg7; clear ho7 he7 hv7 hg7; have M7 := Lib.hid M7))
        all_goals
          have hxn : x < ds.length := by unfold below at hx; rw [if_neg (by omega)] at hx; omega
          clear hx
          have HR' : Hid (∀ t ∈ r.names ++ [s], t.size ≤ 40) := fun t ht => by
            rcases List.mem_append.1 ht with h1 | h1
            · exact hl.out.2.1 t h1
            · rw [List.mem_singleton.1 h1]; exact hs
          have HK' : Hid (∀ z ∈ r.kids ++ [(x : Int)], 0 ≤ z ∧ z < (ds.length : Int)) := fun t ht => by
            rcases List.mem_append.1 ht with h1 | h1
            · exact hl.out.2.2.1 t h1
            · rw [List.mem_singleton.1 h1]; omega
          go_wp2
          go_roundw
          case rel => exact ⟨i - 1, { r with names := r.names ++ [s], kids := r.kids ++ [(x : Int)] }, vb, v, vt, _, by omega, by go_num, hr, ⟨⟨by have := hl.out.1.1; simp; omega, by have := hl.out.1.2; simp; omega⟩, HR'.out, HK'.out, hSI.out⟩, M7⟩
          case measure => simp [intOf]; omega
    · obtain rfl : i = 0 := by omega
      have hM0 := hM.out.M.own
      obtain ⟨Ab, cb, hvb, _⟩ := OwnL.rd hM0.b (by show r.bytes.length ≤ _; rw [hr.out.2.2.2.1]; simp)
      obtain ⟨An, cn, hvn, _⟩ := OwnL.rd hM0.n (by have := hl.out.1.1; show r.names.length ≤ _; omega)
      obtain ⟨At, ct, hvt, _⟩ := OwnL.rd hM0.t (by show r.tags.length ≤ _; rw [hr.out.2.2.2.2.1]; simp)
      obtain ⟨Ak, ck, hvk, _⟩ := OwnL.rd hM0.k (by have := hl.out.1.2; show r.kids.length ≤ _; omega)
      dsimp only at hvb hvn hvt hvk
      subst hvb; subst hvn; subst hvt; subst hvk
      clear hM0
      have M6 := Lib.hid hM.out.M
      have HR6 := Lib.hid hM.out.res
      obtain ⟨⟨a0, a1, a2, a3⟩, a4, a5, a6, a7⟩ := cells8 M6.out.box
      obtain ⟨⟨b0, b1, b2, b3⟩, b4, b5, b6, b7⟩ := cells8 (q := ⟨⟨⟨#[]⟩, 0, 0, false, [], [], [], []⟩, .slice none 0 0, .slice none 0 0, .slice none 0 0, .slice none 0 0⟩) HR6.out
      obtain ⟨⟨d0, d1, d2, d3⟩, d4, d5, d6, d7⟩ := frees8 HR6.out
      dsimp only at a0 a1 a2 a3 a4 a5 a6 a7 b0 b1 b2 b3 b4 b5 b6 b7
      have hgs' := hM.out.M.grow.size
      have HOUT := Lib.hid (M6.out.out HR6.out (by omega) (by omega) (by omega) hM.out.nR)
      dsimp only at HOUT
      have hnew := fun u hu b hb => (M6.out.new u hu b hb).1
      have hfar := M6.out.far
      clear hM
      go_wp2_with fail
      obtain ⟨hB, hO, hCc, hG⟩ := HOUT.out
      obtain ⟨⟨e0, e1, e2, e3⟩, e4, e5, e6, e7⟩ := cells8 (q := ⟨r, .slice Ab r.bytes.length cb, .slice An r.names.length cn, .slice At r.tags.length ct, .slice Ak r.kids.length ck⟩) hB
      dsimp only at e0 e1 e2 e3 e4 e5 e6 e7
      refine bodyPost_ret (v := vrule r (.slice Ab r.bytes.length cb) (.slice An r.names.length cn) (.slice At r.tags.length ct) (.slice Ak r.kids.length ck)) (by simp [results, Try.results37, go_sem, e0, e1, e2, e3, e4, e5, e6, e7, vrule]) rfl ?_
      exact ⟨⟨r, .slice Ab r.bytes.length cb, .slice An r.names.length cn, .slice At r.tags.length ct, .slice Ak r.kids.length ck⟩, rfl, ⟨by rw [hr.out.1]; omega, ⟨by rw [hr.out.2.2.2.1]; simp, by have := hl.out.1.1; show r.names.length ≤ _; omega, by rw [hr.out.2.2.2.2.1]; simp, by have := hl.out.1.2; show r.kids.length ≤ _; omega⟩, hl.out.2.1, ⟨by rw [hr.out.2.2.1]; omega, by rw [hr.out.2.2.2.2.1]; simp, fun x hx => by have := hl.out.2.2.1 x hx; omega⟩⟩, hr.out.2.1, made_seq (r := r) (by obtain ⟨s, hs, he⟩ := HNM.out; exact ⟨s, hs, by rw [hr.out.1]; exact he⟩) hr.out.2.1 hr.out.2.2.1 hr.out.2.2.2.1 hr.out.2.2.2.2.1 hr.out.2.2.2.2.2 (by have := hl.out.1; omega) (by have := hl.out.1; omega) (by have := hl.out.1; omega) hl.out.2.2.2 hl.out.2.2.1, hO, hfar, hnew, hCc, hG⟩
end Go.Proofs.Ytophjmphjdhjoaa

/- Draws of descriptions: l4Make at kind 7. (Printed by gen/gx22.py.) -/
namespace Go.Proofs.Ytophjmphjdhjoaa
open Go.RowKit Go.Sort

set_option maxRecDepth 100000 in
set_option maxHeartbeats 8000000 in
theorem l4Make7_c (Ad : Option Addr) (ds : List DRule) (cd : Nat) (kind : Int) (hkind : kind = 7) (hDn : ds.length ≤ 64) (hki : kind = 1 ∨ ∃ i, ∃ h : i < ds.length, ds[i].kind = 1) (hMD : MadeD ds)
    (wb w : World) (p : Nat) (A : Option Addr) (l : List UInt8) (c : Nat) (hA : Bs wb A l c) (hC : Cur wb w p A l c) (hD : ∀ w', w.grownBy w' (some p) → RdD w' Ad ds cd) :
    Calls Try.prog 37 #[.pointer (some ⟨p, 0, none⟩), vdesc (.slice Ad ds.length cd), .int .i64 kind] w fun e w' => ∃ q : RV, e = .returned (vrule q.r q.vb q.vn q.vt q.vk) ∧ SmallR q.r ∧ q.r.kind = kind ∧ MadeR ds q.r ∧ RuleOwn wb w' q ∧ Far q.vals ∧ (∀ u ∈ q.vals, ∀ b, u.ownBlock = some b → w.heap.size ≤ b) ∧ Cur wb w' p A l c ∧ w.grownBy w' (some p) := by
  have hplt := hC.lt
  have hbw := hC.2.1.size
  have CBe := Lib.hid (fun n w h hn => l1Below_c n wb w p A l c hA h hn)
  have COn := Lib.hid (fun n w h hn => l1Once_c n wb w p A l c hA h hn)
  have CS := Lib.hid (fun w h => l1StrLit_c [⟨#[97]⟩, ⟨#[105, 116, 101, 109]⟩, ⟨#[98]⟩, ⟨#[104, 101, 97, 100]⟩, ⟨#[120]⟩] (by simp) (by simp) 5 rfl #[.string ⟨#[97]⟩, .string ⟨#[105, 116, 101, 109]⟩, .string ⟨#[98]⟩, .string ⟨#[104, 101, 97, 100]⟩, .string ⟨#[120]⟩] rfl wb w p A l c hA h)
  have CF := Lib.hid (fun w => sFormatInt_c (ds.length : Int) w (by omega) (by omega))
  have hit := itoa_size (ds.length : Int) (by omega) (by omega)
  obtain ⟨it, hit0⟩ : ∃ it, itoaB (ds.length : Int) = it := ⟨_, rfl⟩
  rw [hit0] at hit CF
  have HIT := Lib.hid hit0
  clear hit0
  have HD := Lib.hid hD; have hki := Lib.hid hki; have hMD := Lib.hid hMD
  clear hD
  obtain ⟨W0, hW0, HP, HR, e0, hsA⟩ := boxes2' w #[.slice Ad ds.length cd] #[.string ⟨#[]⟩, .int .i64 0, .int .i64 0, .bool false, .slice none 0 0, .slice none 0 0, .slice none 0 0, .slice none 0 0] 26 35
  unfold vdesc
  go_enter Try.func37, Try.ntmps37
  go_wp2_with fail
  rw [← hW0.out]
  have C1 := CS.out W0 (hC.ext e0)
  rw [hsA] at C1
  have C1 := Lib.hid C1
  refine C1.out.mono ?_; rintro _ w1 ⟨nm0, hnm0, rfl, hC1, hg1⟩
  have HNM : Hid (∃ s ∈ heads, nm0 ++ it = s ++ itoaB (ds.length : Int)) := ⟨nm0, hnm0, by rw [HIT.out]⟩
  have hnm : nm0.size ≤ 4 := by simp at hnm0; rcases hnm0 with rfl | rfl | rfl | rfl | rfl <;> decide
  have G1 := (grown_ext e0 (some p)).trans hg1
  have HP1 := Lib.hid (HP.moved hg1 (some_ne (by omega)))
  have HR1 := Lib.hid (HR.moved hg1 (some_ne (by omega)))
  clear hnm0 hg1 C1 CS HP HR e0
  go_wp2_with fail
  refine (CF.out _).mono ?_; rintro _ w2 ⟨rfl, s2⟩
  have G2 := Lib.hid (G1.trans (grown_ext s2 _))
  have HP2 := Lib.hid (HP1.out.ext s2); have HR2 := Lib.hid (HR1.out.ext s2); have hC2 := hC1.ext s2
  clear G1 HP1 HR1 hC1 s2
  have hnl : (nm0 ++ it).size ≤ 24 := by have := ByteArray.size_append (a := nm0) (b := it); omega
  have x3 := Ext_alloc (.cells #[.string (nm0 ++ it), .int .i64 kind, .int .i64 0, .bool false, .slice none 0 0, .slice none 0 0, .slice none 0 0, .slice none 0 0] 35) (Ext.refl w2)
  have hgs := G2.out.size
  have M0 : Hid (Mk wb w (w2.alloc (.cells #[.string (nm0 ++ it), .int .i64 kind, .int .i64 0, .bool false, .slice none 0 0, .slice none 0 0, .slice none 0 0, .slice none 0 0] 35)) p A l c w2.heap.size ⟨⟨nm0 ++ it, kind, 0, false, [], [], [], []⟩, .slice none 0 0, .slice none 0 0, .slice none 0 0, .slice none 0 0⟩) :=
    ⟨Box.new w2 _ _, ⟨OwnL.nil _ _, OwnL.nil _ _, OwnL.nil _ _, OwnL.nil _ _⟩, by simp [Far, RV.vals, Value.ownBlock], by simp [RV.vals, Value.ownBlock], hC2.ext x3, G2.out.trans (grown_ext x3 _), hgs, by omega, by omega⟩
  have HP3 := Lib.hid (HP2.out.ext x3); have HR3 := Lib.hid (HR2.out.ext x3)
  have hlt2 : w.heap.size + 1 < w2.heap.size := HR2.out.lt
  clear HP2 HR2 hC2 G2 x3 CF
  obtain ⟨W3, hW3⟩ : ∃ W3, W3 = w2.alloc (.cells #[.string (nm0 ++ it), .int .i64 kind, .int .i64 0, .bool false, .slice none 0 0, .slice none 0 0, .slice none 0 0, .slice none 0 0] 35) := ⟨_, rfl⟩
  rw [← hW3] at M0 HP3 HR3
  have HW3 := Lib.hid hW3; clear hW3
  subst hkind
  have zp : _ = some (Value.slice Ad ds.length cd) := HP3.out.cell 0
  rw [HW3.out] at zp
  have hki' := hki.out.resolve_left (by omega)
  have hds0 : 0 < ds.length := by obtain ⟨i, hi, _⟩ := hki'; omega
  have CI := Lib.hid (l4Integer_c Ad ds cd hds0 hDn hki' wb W3 p A l c hA M0.out.cur (HD.out _ M0.out.grow))
  unfold vdesc at CI
  clear hki' hki HP3 HD
  go_wp2_with fail
  rw [← HW3.out]
  refine CI.out.mono ?_; rintro _ w4 ⟨x, hx, hxk, rfl, hC4, hg4⟩
  have HXK := Lib.hid hxk
  clear CI zp HW3 hxk
  have M4 := M0.out.moved hC4 hg4
  have HR4 := Lib.hid (HR3.out.moved hg4 (some_ne (by omega)))
  have x5 := Ext_alloc (.cells #[.int .i64 x] 3) (Ext.refl w4)
  have ho5 := OwnL.lit (f := vint) (e := 3) hC4.2.1 [(x : Int)] #[.int .i64 x] rfl 1 rfl (by omega)
  have M5 := M4.ext x5
  have z7 : _ = some (Value.slice none 0 0) := M5.box.cell 7
  have y7 := M5.box.free 7
  have hgl4 := M4.box.lt; have hpl4 := hC4.lt
  have hRl := HR4.out.lt
  have S6 : Hid (MS wb w ((w4.alloc (.cells #[.int .i64 x] 3)).setCell ⟨w2.heap.size, 7, none⟩ (.slice (some ⟨w4.heap.size, 0, none⟩) 1 1)) p A l c w2.heap.size ⟨⟨nm0 ++ it, 7, 0, false, [], [], [], [(x : Int)]⟩, .slice none 0 0, .slice none 0 0, .slice none 0 0, .slice (some ⟨w4.heap.size, 0, none⟩) 1 1⟩ (w.heap.size + 1)) :=
    ⟨M5.fresh_k ho5 (n0 := w4.heap.size) (fun b hb => by injection hb with hb; simp at hb; omega) (by simp [RV.vals, Value.ownBlock]) (by omega) (by omega) (by have := M4.grow.size; omega), (HR4.out.ext x5).other (by omega) 7 _, fun u hu b hb => by
      simp only [RV.vals, List.mem_cons, List.not_mem_nil, or_false] at hu
      rcases hu with rfl | rfl | rfl | rfl
      · cases hb
      · cases hb
      · cases hb
      · (have : some w4.heap.size = some b := hb); injection this; omega, by omega, by omega⟩
  clear M4 M5 ho5 x5 hC4 hg4 HR4 HR3 M0 hgl4 hpl4 hRl
  generalize hgg : w2.heap.size = g at *
  clear hgg
  go_wp2_with fail
  refine (CBe.out 3 _ S6.out.M.cur (by omega)).mono ?_; rintro _ w6 ⟨y, hy, rfl, hC6, hg6⟩
  have hyn : y < 3 := by unfold below at hy; rw [if_neg (by omega)] at hy; omega
  have S4 := Lib.hid (S6.out.moved hC6 hg6)
  clear hy hC6 hg6 S6 z7 y7
  go_wp2
  go_loopw [10] (fun t wr => ∃ (i : Nat) (r : DRule) (vb vn vt vk : Value), i ≤ 3 ∧ t = .int .i64 i ∧ Hid (r.nm = nm0 ++ it ∧ r.kind = 7 ∧ r.size = 0 ∧ r.bytes = [] ∧ r.names = [] ∧ r.little = false) ∧ Hid ((r.tags.length + i = 1 + y ∧ r.kids.length + i = 2 + y) ∧ TagInv r.tags ∧ (∀ x ∈ r.kids, 0 ≤ x ∧ x < (ds.length : Int)) ∧ ∃ t, r.kids = (x : Int) :: t) ∧ Hid (MS wb w wr p A l c g ⟨r, vb, vn, vt, vk⟩ (w.heap.size + 1))) (fun t _ => (intOf t).toNat)
  case atStart => exact ⟨1 + y, _, _, _, _, _, by omega, by simp, ⟨rfl, rfl, rfl, rfl, rfl, rfl⟩, ⟨⟨by simp, by simp; omega⟩, TagInv.nil, by simp; omega, ⟨[], rfl⟩⟩, S4⟩
  case round =>
    clear S4
    obtain ⟨i, r, vb, vn, vt, vk, hi3, rfl, hr, hl, hM⟩ := hrel
    by_cases hi0 : 0 < i
    · obtain ⟨At, ct, hvt, _⟩ := OwnL.rd hM.out.M.own.t (by have := hl.out.1.1; show r.tags.length ≤ _; omega)
      dsimp only at hvt
      subst hvt
      have hMd := Lib.hid (hM.out.ext (Ext_drew (Ext.refl wr)))
      have cd0 : _ = some (Value.slice At r.tags.length ct) := hM.out.M.box.cell 6
      have HBn : Hid (∀ x : Int, (r.tags.length + [x].length) * 8 ≤ 140737488355328) := fun s => by have := hl.out.1.1; simp; omega
      have HLn : Hid (∀ x : Int, (r.tags ++ [x]).length ≤ 140737488351232) := fun s => by have := hl.out.1.1; simp; omega
      have htl := hl.out.1.1
      have hw1 : IntKind.i64.wrap (4 * (r.tags.length : Int)) = 4 * (r.tags.length : Int) := IntWalk.i64_in _ (by omega)
      have hw2 : Hid (∀ z : Nat, z < 4 → IntKind.i64.wrap (4 * (r.tags.length : Int) + (z : Int)) = 4 * (r.tags.length : Int) + (z : Int)) := fun z hz => IntWalk.i64_in _ (by omega)
      have hb4 : Hid (∀ z : Nat, below 4 z → z < 4) := fun z hz => by unfold below at hz; rw [if_neg (by omega)] at hz; omega
      clear htl
      go_wp2_with fail
      go_cut [120] from 110 to 121 (fun _ wx => ∃ s v, Hid (TagInv (r.tags ++ [s])) ∧ Hid (MS wb w wx p A l c g ⟨{ r with tags := r.tags ++ [s] }, vb, vn, v, vk⟩ (w.heap.size + 1)))
      case first =>
        go_region_law (first
          | (go_simp; go_at_call 20; refine (CBe.out 4 _ hMd.out.M.cur (by omega)).mono ?_; rintro _ w5 ⟨z, hz, rfl, hC5, hg5⟩; have M5 := Lib.hid (hMd.out.moved hC5 hg5); have c5 : _ = some (Value.slice At r.tags.length ct) := M5.out.M.box.cell 6; have M5' := Lib.hid (M5.out.ext (Ext_alloc (.cells #[.int .i64 (4 * (r.tags.length : Int) + (z : Int))] 3) (Ext.refl _))); have c5' : _ = some (Value.slice At r.tags.length ct) := M5'.out.M.box.cell 6; have hz4 := hb4.out _ hz; have hw3 := hw2.out z hz4; clear hC5 hg5 hz)
          | (refine step_appG rfl (.tmp 111) (.tmp 119) _ rfl E_int (by omega) wb _ vint (fun _ => rfl) (.slice At r.tags.length ct) rfl (some ⟨w5.heap.size, 0, none⟩) 1 1 rfl r.tags [4 * (r.tags.length : Int) + (z : Int)] M5'.out.M.own.t M5'.out.M.cur.2.1 rfl (fun _ => ⟨_, rfl, fun j u hu => (World.cell?_alloc_at' w5 [.int .i64 (4 * (r.tags.length : Int) + (z : Int))] 3 j).trans hu⟩) (HBn.out _) ?_; intro v7 w7 ho7 he7 hv7 hg7; obtain ⟨A7, c7, hsh, _⟩ := OwnL.rd ho7 (HLn.out _); replace hsh : v7 = .slice A7 (r.tags.length + 1) c7 := (by rw [hsh, List.length_append]; rfl); subst hsh; obtain ⟨⟨z7, y7⟩, M7⟩ := M5'.out.app_t ho7 he7 hv7 hg7; clear ho7 he7 hv7 hg7; have M7 := Lib.hid M7))
        all_goals
          go_wp2_with fail
          go_meet
          exact ⟨4 * (r.tags.length : Int) + (z : Int), _, hl.out.2.1.snoc hz4, M7⟩
      case rest =>
        obtain ⟨s, v, hs, hM'⟩ := hcut
        clear hM hMd cd0 HBn HLn hw1 hw2 hb4
        have hMd := Lib.hid (hM'.out.ext (Ext_drew (Ext.refl wc)))
        have cd0 : _ = some vk := hM'.out.M.box.cell 7
        have HBn : Hid (∀ x : Int, (r.kids.length + [x].length) * 8 ≤ 140737488355328) := fun s => by have := hl.out.1.2; simp; omega
        have HLn : Hid (∀ x : Int, (r.kids ++ [x]).length ≤ 140737488351232) := fun s => by have := hl.out.1.2; simp; omega
        go_wp2_with fail
        go_region_law (first
          | (go_simp; go_at_call 20; refine (CBe.out ds.length _ hMd.out.M.cur (by omega)).mono ?_; rintro _ w5 ⟨x2, hx2, rfl, hC5, hg5⟩; have M5 := Lib.hid (hMd.out.moved hC5 hg5); have c5 : _ = some vk := M5.out.M.box.cell 7; have M5' := Lib.hid (M5.out.ext (Ext_alloc (.cells #[.int .i64 x2] 3) (Ext.refl _))); have c5' : _ = some vk := M5'.out.M.box.cell 7; clear hC5 hg5)
          | (refine step_appG rfl (.tmp 123) (.tmp 127) _ rfl E_int (by omega) wb _ vint (fun _ => rfl) vk rfl (some ⟨w5.heap.size, 0, none⟩) 1 1 rfl r.kids [(x2 : Int)] M5'.out.M.own.k M5'.out.M.cur.2.1 rfl (fun _ => ⟨_, rfl, fun j u hu => (World.cell?_alloc_at' w5 [.int .i64 x2] 3 j).trans hu⟩) (HBn.out _) ?_; intro v7 w7 ho7 he7 hv7 hg7; obtain ⟨A7, c7, hsh, _⟩ := OwnL.rd ho7 (HLn.out _); replace hsh : v7 = .slice A7 (r.kids.length + 1) c7 := (by rw [hsh, List.length_append]; rfl); subst hsh; obtain ⟨⟨z7, y7⟩, M7⟩ := M5'.out.app_k ho7 he7 hv7 hg7; clear ho7 he7 hv7 hg7; have M7 := Lib.hid M7))
        all_goals
          have hxn : x2 < ds.length := by unfold below at hx2; rw [if_neg (by omega)] at hx2; omega
          clear hx2
          have HK' : Hid (∀ z ∈ r.kids ++ [(x2 : Int)], 0 ≤ z ∧ z < (ds.length : Int)) := fun t ht => by
            rcases List.mem_append.1 ht with h1 | h1
            · exact hl.out.2.2.1 t h1
            · rw [List.mem_singleton.1 h1]; omega
          go_wp2
          go_roundw
          case rel => exact ⟨i - 1, { r with tags := r.tags ++ [s], kids := r.kids ++ [(x2 : Int)] }, vb, vn, v, _, by omega, by go_num, hr, ⟨⟨by have := hl.out.1.1; simp; omega, by have := hl.out.1.2; simp; omega⟩, hs.out, HK'.out, by obtain ⟨t, ht⟩ := hl.out.2.2.2; exact ⟨t ++ [(x2 : Int)], by show r.kids ++ _ = _; rw [ht]; rfl⟩⟩, M7⟩
          case measure => simp [intOf]; omega
    · obtain rfl : i = 0 := by omega
      have hM0 := hM.out.M.own
      obtain ⟨Ab, cb, hvb, _⟩ := OwnL.rd hM0.b (by show r.bytes.length ≤ _; rw [hr.out.2.2.2.1]; simp)
      obtain ⟨An, cn, hvn, _⟩ := OwnL.rd hM0.n (by show r.names.length ≤ _; rw [hr.out.2.2.2.2.1]; simp)
      obtain ⟨At, ct, hvt, _⟩ := OwnL.rd hM0.t (by have := hl.out.1.1; show r.tags.length ≤ _; omega)
      obtain ⟨Ak, ck, hvk, _⟩ := OwnL.rd hM0.k (by have := hl.out.1.2; show r.kids.length ≤ _; omega)
      dsimp only at hvb hvn hvt hvk
      subst hvb; subst hvn; subst hvt; subst hvk
      clear hM0
      have M6 := Lib.hid hM.out.M
      have HR6 := Lib.hid hM.out.res
      obtain ⟨⟨a0, a1, a2, a3⟩, a4, a5, a6, a7⟩ := cells8 M6.out.box
      obtain ⟨⟨b0, b1, b2, b3⟩, b4, b5, b6, b7⟩ := cells8 (q := ⟨⟨⟨#[]⟩, 0, 0, false, [], [], [], []⟩, .slice none 0 0, .slice none 0 0, .slice none 0 0, .slice none 0 0⟩) HR6.out
      obtain ⟨⟨d0, d1, d2, d3⟩, d4, d5, d6, d7⟩ := frees8 HR6.out
      dsimp only at a0 a1 a2 a3 a4 a5 a6 a7 b0 b1 b2 b3 b4 b5 b6 b7
      have hgs' := hM.out.M.grow.size
      have HOUT := Lib.hid (M6.out.out HR6.out (by omega) (by omega) (by omega) hM.out.nR)
      dsimp only at HOUT
      have hnew := fun u hu b hb => (M6.out.new u hu b hb).1
      have hfar := M6.out.far
      clear hM
      go_wp2_with fail
      obtain ⟨hB, hO, hCc, hG⟩ := HOUT.out
      obtain ⟨⟨e0, e1, e2, e3⟩, e4, e5, e6, e7⟩ := cells8 (q := ⟨r, .slice Ab r.bytes.length cb, .slice An r.names.length cn, .slice At r.tags.length ct, .slice Ak r.kids.length ck⟩) hB
      dsimp only at e0 e1 e2 e3 e4 e5 e6 e7
      refine bodyPost_ret (v := vrule r (.slice Ab r.bytes.length cb) (.slice An r.names.length cn) (.slice At r.tags.length ct) (.slice Ak r.kids.length ck)) (by simp [results, Try.results37, go_sem, e0, e1, e2, e3, e4, e5, e6, e7, vrule]) rfl ?_
      exact ⟨⟨r, .slice Ab r.bytes.length cb, .slice An r.names.length cn, .slice At r.tags.length ct, .slice Ak r.kids.length ck⟩, rfl, ⟨by rw [hr.out.1]; omega, ⟨by rw [hr.out.2.2.2.1]; simp, by rw [hr.out.2.2.2.2.1]; simp, by have := hl.out.1.1; show r.tags.length ≤ _; omega, by have := hl.out.1.2; show r.kids.length ≤ _; omega⟩, by rw [hr.out.2.2.2.2.1]; simp, ⟨by rw [hr.out.2.2.1]; omega, fun x hx => by obtain ⟨j, hj, rfl⟩ := List.getElem_of_mem hx; have h1 := hl.out.2.1.at' j hj; have h2 := hl.out.1.1; dsimp only at hj ⊢; omega, fun x hx => by have := hl.out.2.2.1 x hx; omega⟩⟩, hr.out.2.1, made_cho (r := r) hMD.out (by obtain ⟨s, hs, he⟩ := HNM.out; exact ⟨s, hs, by rw [hr.out.1]; exact he⟩) hr.out.2.1 hr.out.2.2.1 hr.out.2.2.2.1 hr.out.2.2.2.2.1 hr.out.2.2.2.2.2 (by have := hl.out.1; omega) (by have := hl.out.1; omega) (by have := hl.out.1; omega) hl.out.2.1 hx HXK.out hl.out.2.2.2.choose_spec hl.out.2.2.1, hO, hfar, hnew, hCc, hG⟩
end Go.Proofs.Ytophjmphjdhjoaa

/- Worlds that differ in blocks of a stretch, and in new ones. -/
namespace Go.Proofs.Ytophjmphjdhjoaa
open Go.RowKit Go.Sort

/-- w' is w with new blocks, and writes to blocks from lo on, below hi -/
structure Wrote (lo hi : Nat) (w w' : World) : Prop where
  os : w'.os = w.os
  tape : w'.tape = w.tape
  output : w'.output = w.output
  size : w.heap.size ≤ w'.heap.size
  block : ∀ k, k < w.heap.size → (k < lo ∨ hi ≤ k) → w'.heap[k]? = w.heap[k]?
theorem Wrote.refl (lo hi : Nat) (w : World) : Wrote lo hi w w := ⟨rfl, rfl, rfl, Nat.le_refl _, fun _ _ _ => rfl⟩
theorem Wrote.trans {lo hi : Nat} {a b c : World} (h : Wrote lo hi a b) (k : Wrote lo hi b c) : Wrote lo hi a c :=
  ⟨k.os.trans h.os, k.tape.trans h.tape, k.output.trans h.output, Nat.le_trans h.size k.size, fun i hi hb => (k.block i (Nat.lt_of_lt_of_le hi h.size) hb).trans (h.block i hi hb)⟩
theorem Wrote.mono {lo hi lo' hi' : Nat} {a b : World} (h : Wrote lo hi a b) (h1 : lo' ≤ lo) (h2 : hi ≤ hi') : Wrote lo' hi' a b :=
  ⟨h.os, h.tape, h.output, h.size, fun i hi hb => h.block i hi (by omega)⟩
theorem Wrote.ext {lo hi : Nat} {w w' : World} (e : Ext w w') : Wrote lo hi w w' := ⟨e.os, e.tape, e.output, e.size, fun i hi _ => Below.block e i hi⟩
theorem Wrote.grown {lo hi : Nat} {w w' : World} {row : Option Nat} (h : w.grownBy w' row) (hr : ∀ g, row = some g → lo ≤ g ∧ g < hi) : Wrote lo hi w w' :=
  ⟨h.os, h.tape, h.output, h.size, fun i hi hb => h.block i hi (fun e => by have := hr i e.symm; omega)⟩
theorem Wrote.set {lo hi : Nat} (w : World) (a : Addr) (u : Value) (h1 : lo ≤ a.block) (h2 : a.block < hi) : Wrote lo hi w (w.setCell a u) :=
  Wrote.grown (grown_set w a u) (fun g hg => by injection hg with hg; subst hg; exact ⟨h1, h2⟩)
/-- what was there before lo stays -/
theorem Wrote.below {lo hi : Nat} {w0 w w' : World} (h : Wrote lo hi w w') (e : Ext w0 w) (hlo : w0.heap.size ≤ lo) : Ext w0 w' :=
  Below.trans e ⟨h.os, h.tape, h.output, h.size, fun k hk => h.block k (Nat.lt_of_lt_of_le hk e.size) (.inl (Nat.lt_of_lt_of_le hk hlo))⟩
theorem Own.wrote {e : TypeId} {size : Nat} {w0 w w' : World} {v : Value} {n : Nat} {xs : List Value} (h : Own e size w0 w v n xs) {lo hi : Nat} (hw : Wrote lo hi w w') (hv : ∀ g, v.ownBlock = some g → g < lo ∨ hi ≤ g) : Own e size w0 w' v n xs := by
  refine ⟨h.1, ?_⟩
  rcases h.2 with h0 | ⟨g, cap, cur, rfl, hb, hg, r⟩
  · exact .inl h0
  · exact .inr ⟨g, cap, cur, rfl, hb, (hw.block g (Array.getElem?_eq_some_iff.1 hg).1 (hv g rfl)).trans hg, r⟩
theorem OwnL.wrote {α : Type} {f : α → Value} {e : TypeId} {w0 w w' : World} {v : Value} {l : List α} (h : OwnL f e w0 w v l) {lo hi : Nat} (hw : Wrote lo hi w w') (hv : ∀ g, v.ownBlock = some g → g < lo ∨ hi ≤ g) : OwnL f e w0 w' v l := Own.wrote h hw hv
/-- .. made behind the stretch -/
theorem OwnL.behind {α : Type} {f : α → Value} {e : TypeId} {w0 w w' : World} {v : Value} {l : List α} (h : OwnL f e w0 w v l) {lo hi : Nat} (hw : Wrote lo hi w w') (hb : hi ≤ w0.heap.size) : OwnL f e w0 w' v l :=
  h.wrote hw (fun g hg => .inr (Nat.le_trans hb (World.ownsRow.lt h g hg).1))
end Go.Proofs.Ytophjmphjdhjoaa

/- CopyDescription of the program and of the reference: the walks. -/
namespace Go.Proofs.Ytophjmphjdhjoaa
open Go.RowKit Go.Sort

section
variable {P : Program} {ops : Array Oper} {o : Oper} {a : Act} {Q : Exit → Act → World → Prop} {K : Act → World → Prop} {E : Prop}
/-- append, elements of any size, as one step of a region that draws -/
theorem step_app8 (hgd : o.guard = none) (s x : Operand) (t : TypeId) (ho : o.op = .call { callee := .builtin .append, args := #[s, x], argTypes := #[t, t] })
    {e : TypeId} {size bytes : Nat} {z : Value} (hE : Elem P t e size bytes z) (w0 w : World) (v : Value) (n : Nat) (xs : List Value) (hs : a.eval s = v) (hown : Own e size w0 w v n xs) (he : w0.heap.size ≤ w.heap.size)
    (ad : Addr) (m c : Nat) (news : List Value) (hx : a.eval x = .slice (some ad) m c) (hl : news.length = m * size) (hA : ∀ j u, news[j]? = some u → w.cell? (ad.add j) = some u) (h1 : ∀ u ∈ news, u.oneCell' = true)
    (hm : n + m ≤ maxLen) (hb : (n + m) * bytes ≤ 140737488355328)
    (h : ∀ v' w', Own e size w0 w' v' (n + m) (xs ++ news) → w.grownBy w' v.ownBlock → (v'.ownBlock = v.ownBlock ∨ v'.ownBlock = some w.heap.size) → K (a.put o.dst v') w') :
    if Region.wanted o (yielded ops a.tmps) = true then Oper.wp P o a w K Q else E := by
  have hw : Region.wanted o (yielded ops a.tmps) = true := by simp [Region.wanted, hgd]
  rw [if_pos hw]
  obtain ⟨i0, hi0, hz0, hz1, hz2⟩ := info_parts hE.hi
  obtain ⟨v', w', hr, h2, h3, h4, h5⟩ := run_append_own_at (P := P) w w0.heap.size t o.type e i0 z size bytes hE.ht hi0 hz0 hz1 hz2 hE.hz hE.hs v n xs hown ad m c news hl hA h1 hm hb he
  unfold Oper.wp execOp
  simp only [ho, resolve, invoke, builtin, Sem.run_bind, Sem.run_pure, Result.andThen_ok, List.map_toArray, List.map_cons, List.map_nil, hs, hx, hr]
  exact h v' w' h2 h3 h5
end
theorem vals_cells_one (p : RV) {w0 w : World} (h : RuleOwn w0 w p) (hs : ShortR p.r) : ∀ u ∈ p.cells, u.oneCell' = true := by
  obtain ⟨Ab, cb, An, cn, At, ct, Ak, ck, h1, h2, h3, h4, _⟩ := h.rd hs
  exact RV.cells_one p (by rw [h1]; rfl) (by rw [h2]; rfl) (by rw [h3]; rfl) (by rw [h4]; rfl)
theorem OwnD.snoc {W0 wr w2 w4 : World} {v v' : Value} {ps : List RV} {p : RV} (h : OwnD W0 wr v ps) (e2 : Ext wr w2) (hro : RuleOwn wr w2 p) (hfr : Far p.vals) (hb : W0.heap.size ≤ wr.heap.size) {cs : Array Value} {T : TypeId}
    (ho4 : Own 35 8 W0 w4 v' (ps.length + 1) (ps.flatMap RV.cells ++ p.cells)) (hg4 : (w2.alloc (.cells cs T)).grownBy w4 v.ownBlock) (hv : v'.ownBlock = v.ownBlock ∨ v'.ownBlock = some (w2.alloc (.cells cs T)).heap.size) : OwnD W0 w4 v' (ps ++ [p]) := by
  have ex := Ext_alloc (.cells cs T) (Ext.refl w2)
  have hsz : (w2.alloc (.cells cs T)).heap.size = w2.heap.size + 1 := by simp
  have hbl := h.block
  have hfar := h.far
  unfold Far at hfar
  rw [List.pairwise_cons] at hfar
  have hs2 := e2.size
  refine ⟨?_, fun q hq => ?_, ?_⟩
  · rw [List.length_append, List.flatMap_append, List.flatMap_cons, List.flatMap_nil, List.append_nil]; exact ho4
  · rcases List.mem_append.1 hq with hq | hq
    · refine (((h.each q hq).ext e2).ext ex).keep hg4 (fun u hu g hg he => ?_)
      exact hfar.1 u (List.mem_flatMap.2 ⟨q, hq, hu⟩) g he hg
    · obtain rfl := List.mem_singleton.1 hq
      refine ((hro.ext ex).keep hg4 (fun u hu g hg he => ?_)).down hb
      have h1 := (hro.block u hu g hg).1
      have h2 := (hbl v (List.mem_cons_self ..) g he).2
      omega
  · rw [List.flatMap_append, List.flatMap_cons, List.flatMap_nil, List.append_nil]
    have hold : ∀ u ∈ ps.flatMap RV.vals, ∀ g, u.ownBlock = some g → g < wr.heap.size := fun u hu g hg => (hbl u (List.mem_cons_of_mem _ hu) g hg).2
    have hnew : ∀ u ∈ p.vals, ∀ g, u.ownBlock = some g → wr.heap.size ≤ g ∧ g < w2.heap.size := fun u hu g hg => hro.block u hu g hg
    refine Far.cons (Far.append hfar.2 hfr (fun u hu x hx g h1 h2 => by have := hold u hu g h1; have := (hnew x hx g h2).1; omega)) (fun x hx g h1 h2 => ?_)
    rcases hv with hv | hv
    · rw [hv] at h1
      rcases List.mem_append.1 hx with hx | hx
      · exact hfar.1 x hx g h1 h2
      · have := (hbl v (List.mem_cons_self ..) g h1).2; have := (hnew x hx g h2).1; omega
    · rw [hv, hsz] at h1
      injection h1 with h1
      rcases List.mem_append.1 hx with hx | hx
      · have := hold x hx g h2; omega
      · have := (hnew x hx g h2).2; omega
theorem size_drew (w : World) : w.drew.heap.size = w.heap.size := rfl
set_option maxRecDepth 100000 in
set_option maxHeartbeats 8000000 in
theorem sCopyD_c (A : Option Addr) (ds : List DRule) (c : Nat) (w : World) (h : RdD w A ds c) (hz : szD ds ≤ 1048576) :
    Calls Try.prog 30 #[vdesc (.slice A ds.length c)] w fun e w' => ∃ v ps, e = .returned (vdesc v) ∧ rulesOf ps = ds ∧ OwnD w w' v ps ∧ Ext w w' := by
  have hn : ds.length ≤ 1048576 := by unfold szD at hz; omega
  have HZ : Hid (∀ k (hk : k < ds.length), szRl ds[k] ≤ 1048576) := fun k hk => szD_mem hz (List.getElem_mem hk)
  obtain ⟨W0, HW0, HP, HR, HO, e0, hsA⟩ := boxes3' w #[.slice A ds.length c] #[.slice none 0 0] #[.slice none 0 0] 26 26 26
  have HSA := Lib.hid hsA; clear hsA
  have HP0 := Lib.hid HP; have HR0 := Lib.hid HR; have HO0 := Lib.hid HO; clear HP HR HO
  have OD0 : Hid (OwnD W0 W0 (.slice none 0 0) []) := ⟨⟨by simp, .inl ⟨rfl, rfl⟩⟩, fun p hp => by simp at hp, Far.one _⟩
  have HH := Lib.hid h; clear h
  unfold vdesc
  go_enter Try.func30, Try.ntmps30
  go_wp2
  rw [← HW0.out]
  go_loopw [4] (fun ix wr => ∃ (k : Nat) (ps : List RV) (v : Value), k ≤ ds.length ∧ ix = .int .i64 k ∧ ps.length ≤ k ∧ k ≤ ps.length ∧ Hid (rulesOf ps = ds.take k) ∧ Hid (OwnD W0 wr v ps) ∧ Hid (Box wr w.heap.size #[.slice A ds.length c] 26) ∧ Hid (Box wr (w.heap.size + 1) #[.slice none 0 0] 26) ∧ Hid (Box wr (w.heap.size + 1 + 1) #[v] 26) ∧ Ext w wr ∧ W0.heap.size ≤ wr.heap.size) (fun ix _ => ds.length - (intOf ix).toNat)
  case atStart => exact ⟨0, [], _, by omega, rfl, by simp, by simp, by simp [Hid, rulesOf], OD0, HP0, HR0, HO0, e0, Nat.le_refl _⟩
  case round =>
    clear OD0 HP0 HR0 HO0 e0 HW0
    obtain ⟨k, ps, v, hk, rfl, hl1, hl2, hps, hod, hbp, hbr, hbo, he, hsz⟩ := hrel
    have c0 : _ = some (Value.slice A ds.length c) := hbp.out.cell 0
    by_cases hlt : k < ds.length
    · obtain ⟨b, off, Ab, cb, An, cn, At, ct, Ak, ck, hA, hb, hs, hr⟩ := HH.out.at k hlt
      subst hA
      have hzk := HZ.out k hlt
      have HT : Hid (ds.take (k+1) = ds.take k ++ [ds[k]]) := List.take_succ_eq_append_getElem hlt
      generalize ds[k] = r at *
      have C := Lib.hid (fun w h => sCopyR_c r Ab cb An cn At ct Ak ck w h hzk)
      obtain ⟨k0, k1, k2, k3, k4, k5, k6, k7⟩ := hr
      unfold vrule at C
      have cv : _ = some v := hbo.out.cell 0
      have hd := Ext_drew he
      have HS := Lib.hid hs; have hzk := Lib.hid hzk
      have hbod := Lib.hid (hbo.out.ext (Ext_drew (Ext.refl wr)))
      have hodd := Lib.hid (hod.out.ext (Ext_drew (Ext.refl wr)))
      clear hs
      have b1 : (0 : Int) ≤ (k : Int) := by omega
      have b2 : (k : Int) < (ds.length : Int) := by omega
      go_wp2_with fail
      go_region_law (first
        | (go_simp; go_at_call 46; refine (C.out _ (HS.out.ext hd)).mono ?_; rintro _ w2 ⟨vb, vn, vt, vk, rfl, hro, hfr, he2⟩; have hro := Lib.hid hro; have hfr := Lib.hid hfr; have hbo3 := Lib.hid ((hbod.out.ext he2).ext (Ext_alloc (.cells #[.string r.nm, .int .i64 r.kind, .int .i64 r.size, .bool r.little, vb, vn, vt, vk] 35) (Ext.refl w2))); have c2 : _ = some v := (hbod.out.ext he2).cell 0; have c3 : _ = some v := hbo3.out.cell 0; have hsz2 : Hid (W0.heap.size ≤ (w2.alloc (.cells #[.string r.nm, .int .i64 r.kind, .int .i64 r.size, .bool r.little, vb, vn, vt, vk] 35)).heap.size) := (by have h1 := he2.size; rw [size_drew] at h1; show _ ≤ _; rw [World.size_alloc]; omega); have hone := Lib.hid (vals_cells_one _ hro.out (szRl_short hzk.out).1); have hNv : Hid (v.ownBlock ≠ some (w.heap.size + 1 + 1)) := (fun hh => by have := (hod.out.block v (List.mem_cons_self ..) _ hh).1; have := HSA.out; omega))
        | (refine step_app8 rfl (.tmp 14) (.tmp 21) _ rfl E_rule W0 (w2.alloc (.cells #[.string r.nm, .int .i64 r.kind, .int .i64 r.size, .bool r.little, vb, vn, vt, vk] 35)) v ps.length (ps.flatMap RV.cells) rfl (Own.ext (Own.ext hodd.out.row he2) (Ext_alloc _ (Ext.refl _))) hsz2.out ⟨w2.heap.size, 0, none⟩ 1 1 (RV.cells ⟨r, vb, vn, vt, vk⟩) rfl rfl (fun j u hu => (World.cell?_alloc_at' w2 (RV.cells ⟨r, vb, vn, vt, vk⟩) 35 j).trans hu) hone.out (by simp [maxLen]; omega) (by omega) ?_; intro v4 w4 ho4 hg4 hv4; have hbo4 := Lib.hid (Box.moved (hbo3.out) hg4 hNv.out); have c4 := hbo4.out.cell 0; have f4 := hbo4.out.free 0; have HO4 := Lib.hid (OwnD.snoc hodd.out he2 hro.out hfr.out hsz ho4 hg4 hv4); have HG4 := Lib.hid hg4; clear ho4 hg4 hv4; obtain ⟨A4, q4, hA4⟩ := HO4.out.shape; replace hA4 : v4 = .slice A4 (ps.length + 1) q4 := (by rw [hA4, List.length_append]; rfl); subst hA4))
      all_goals
        have hW := HSA.out
        have x3 := Ext_alloc (.cells #[.string r.nm, .int .i64 r.kind, .int .i64 r.size, .bool r.little, vb, vn, vt, vk] 35) (Ext.refl w2)
        have bV : ∀ g, v.ownBlock = some g → w.heap.size + 3 ≤ g := fun g hg => by have := (hod.out.block v (List.mem_cons_self ..) g hg).1; omega
        have e4 := ((hd.trans he2).trans x3).grown HG4.out (fun g hg => by have := bV g hg; omega)
        have P5 : Hid (Box (w4.setCell ⟨w.heap.size + 1 + 1, 0, none⟩ (.slice A4 (ps.length + 1) q4)) w.heap.size #[.slice (some ⟨b, off, none⟩) ds.length c] 26) := (((hbp.out.ext ((Ext_drew (Ext.refl wr)).trans he2)).ext x3).moved HG4.out (fun hh => by have := bV _ hh; omega)).other (by omega) 0 _
        have R5 : Hid (Box (w4.setCell ⟨w.heap.size + 1 + 1, 0, none⟩ (.slice A4 (ps.length + 1) q4)) (w.heap.size + 1) #[.slice none 0 0] 26) := (((hbr.out.ext ((Ext_drew (Ext.refl wr)).trans he2)).ext x3).moved HG4.out (fun hh => by have := bV _ hh; omega)).other (by omega) 0 _
        have O5 : Hid (Box (w4.setCell ⟨w.heap.size + 1 + 1, 0, none⟩ (.slice A4 (ps.length + 1) q4)) (w.heap.size + 1 + 1) #[.slice A4 (ps.length + 1) q4] 26) := hbo4.out.set 0 (.slice A4 (ps.length + 1) q4)
        have D5 : Hid (OwnD W0 (w4.setCell ⟨w.heap.size + 1 + 1, 0, none⟩ (.slice A4 (ps.length + 1) q4)) (.slice A4 (ps.length + 1) q4) (ps ++ [⟨r, vb, vn, vt, vk⟩])) := HO4.out.keep (grown_set w4 ⟨w.heap.size + 1 + 1, 0, none⟩ _) (fun u hu g hg hh => by have h1 := (HO4.out.block u hu g hg).1; injection hh with hh; simp at hh; omega)
        have E5 : Hid (Ext w (w4.setCell ⟨w.heap.size + 1 + 1, 0, none⟩ (.slice A4 (ps.length + 1) q4))) := e4.setCell (p := ⟨w.heap.size + 1 + 1, 0, none⟩) (by show w.heap.size ≤ w.heap.size + 1 + 1; omega) _
        have S5 : Hid (W0.heap.size ≤ (w4.setCell ⟨w.heap.size + 1 + 1, 0, none⟩ (.slice A4 (ps.length + 1) q4)).heap.size) := by
          have h1 := HG4.out.size; have h2 := hsz2.out
          show _ ≤ _; simp only [World.size_setCell]; omega
        have N5 : Hid (rulesOf (ps ++ [⟨r, vb, vn, vt, vk⟩]) = ds.take (k + 1)) := by show _ = _; rw [rulesOf_append, hps.out, HT.out]; rfl
        clear hW x3 bV e4
        go_wp2
        go_roundw
        case rel => exact ⟨k + 1, ps ++ [⟨r, vb, vn, vt, vk⟩], _, by omega, by go_num, by simp; omega, by simp; omega, N5, D5, P5, R5, O5, E5.out, S5.out⟩
        case measure => simp [intOf]; omega
    · obtain rfl : k = ds.length := by omega
      obtain ⟨A5, c5, hA5⟩ := hod.out.shape
      subst hA5
      have hN : rulesOf ps = ds := by rw [hps.out, List.take_length]
      have HN := Lib.hid hN
      have cv : _ = some (Value.slice A5 ps.length c5) := hbo.out.cell 0
      have cr : _ = some (Value.slice none 0 0) := hbr.out.cell 0
      have fr := hbr.out.free 0
      have G := grown_set wr ⟨w.heap.size + 1, 0, none⟩ (.slice A5 ps.length c5)
      have D5 : Hid (OwnD w (wr.setCell ⟨w.heap.size + 1, 0, none⟩ (.slice A5 ps.length c5)) (.slice A5 ps.length c5) ps) := (hod.out.keep G (fun u hu g hg hh => by have h1 := (hod.out.block u hu g hg).1; have := HSA.out; injection hh with hh; simp at hh; omega)).down (by have := HSA.out; omega)
      have E5 : Hid (Ext w (wr.setCell ⟨w.heap.size + 1, 0, none⟩ (.slice A5 ps.length c5))) := he.setCell (p := ⟨w.heap.size + 1, 0, none⟩) (by show w.heap.size ≤ w.heap.size + 1; omega) _
      have z5 : (wr.setCell ⟨w.heap.size + 1, 0, none⟩ (.slice A5 ps.length c5)).cell? ⟨w.heap.size + 1, 0, none⟩ = some (.slice A5 ps.length c5) := World.cell?_setCell_same _ _ _ cr
      clear hN G
      go_wp2
      exact bodyPost_ret (v := .agg #[.slice A5 ps.length c5]) (by simp [results, Try.results30, go_sem, z5]) rfl ⟨_, ps, rfl, HN.out, D5.out, E5.out⟩
set_option maxRecDepth 100000 in
set_option maxHeartbeats 8000000 in
theorem iCopyD_c (A : Option Addr) (ds : List DRule) (c : Nat) (w : World) (h : RdD w A ds c) (hz : szD ds ≤ 1048576) :
    Calls Try.prog 27 #[vdesc (.slice A ds.length c)] w fun e w' => ∃ v ps, e = .returned (vdesc v) ∧ rulesOf ps = ds ∧ OwnD w w' v ps ∧ Ext w w' := by
  have hn : ds.length ≤ 1048576 := by unfold szD at hz; omega
  have HZ : Hid (∀ k (hk : k < ds.length), szRl ds[k] ≤ 1048576) := fun k hk => szD_mem hz (List.getElem_mem hk)
  obtain ⟨W0, HW0, HP, HR, e0, hsA⟩ := boxes2' w #[.slice A ds.length c] #[.slice none 0 0] 26 26
  have HSA := Lib.hid hsA; clear hsA
  have HH := Lib.hid h; clear h
  unfold vdesc
  go_enter Try.func27, Try.ntmps27
  go_wp2_with (first
    | (at_make; go_must (rw [← HW0.out]; refine wpList_mk0 rfl _ _ _ rfl E_rule W0 W0 (Ext.refl W0) ds.length rfl rfl (by omega) (by simp [maxLen]; omega) ?_); intro w1 ho he; have cp1 : _ = some (Value.slice A ds.length c) := (HP.ext he).cell 0; have cp2 : _ = some (Value.slice A ds.length c) := ((HP.ext he).ext (Ext_alloc (.cells #[.slice (some ⟨W0.heap.size, 0, none⟩) 0 ds.length] 26) (Ext.refl w1))).cell 0))
  have x1 := Ext_alloc (.cells #[.slice (some ⟨W0.heap.size, 0, none⟩) 0 ds.length] 26) (Ext.refl w1)
  have hg3 : W0.heap.size < w1.heap.size := (World.ownsRow.lt ho _ rfl).2
  have HP1 := Lib.hid ((HP.ext he).ext x1); have HR1 := Lib.hid ((HR.ext he).ext x1)
  have HO1 := Lib.hid (Box.new w1 #[.slice (some ⟨W0.heap.size, 0, none⟩) 0 ds.length] 26)
  have OD1 : Hid (OwnD W0 (w1.alloc (.cells #[.slice (some ⟨W0.heap.size, 0, none⟩) 0 ds.length] 26)) (.slice (some ⟨W0.heap.size, 0, none⟩) 0 ds.length) []) := ⟨Own.ext ho x1, fun p hp => by simp at hp, Far.one _⟩
  have NF1 : Hid (∀ u ∈ (Value.slice (some ⟨W0.heap.size, 0, none⟩) 0 ds.length) :: ([] : List RV).flatMap RV.vals, u.ownBlock ≠ some w1.heap.size) := by
    intro u hu hh
    simp only [List.flatMap_nil, List.mem_cons, List.not_mem_nil, or_false] at hu
    subst hu; injection hh with hh; exact absurd hh (Nat.ne_of_lt hg3)
  have e1 := (e0.trans he).trans x1
  have hs1 : W0.heap.size ≤ (w1.alloc (.cells #[.slice (some ⟨W0.heap.size, 0, none⟩) 0 ds.length] 26)).heap.size := by rw [World.size_alloc]; omega
  clear ho he x1 e0 HP HR
  go_loopw [14] (fun ix wr => ∃ (k : Nat) (ps : List RV) (v : Value), k ≤ ds.length ∧ ix = .int .i64 k ∧ ps.length ≤ k ∧ k ≤ ps.length ∧ Hid (rulesOf ps = ds.take k) ∧ Hid (OwnD W0 wr v ps) ∧ Hid (Box wr w.heap.size #[.slice A ds.length c] 26) ∧ Hid (Box wr (w.heap.size + 1) #[.slice none 0 0] 26) ∧ Hid (Box wr w1.heap.size #[v] 26) ∧ Hid (∀ u ∈ v :: ps.flatMap RV.vals, u.ownBlock ≠ some w1.heap.size) ∧ Ext w wr ∧ W0.heap.size ≤ wr.heap.size) (fun ix _ => ds.length - (intOf ix).toNat)
  case atStart => exact ⟨0, [], _, by omega, rfl, by simp, by simp, by simp [Hid, rulesOf], OD1, HP1, HR1, HO1, NF1, e1, hs1⟩
  case round =>
    clear OD1 HP1 HR1 HO1 NF1 e1 hs1 HW0 cp1 cp2
    obtain ⟨k, ps, v, hk, rfl, hl1, hl2, hps, hod, hbp, hbr, hbo, hnf, he, hsz⟩ := hrel
    by_cases hlt : k < ds.length
    · obtain ⟨b, off, Ab, cb, An, cn, At, ct, Ak, ck, hA, hb, hs, hr⟩ := HH.out.at k hlt
      subst hA
      have hzk := HZ.out k hlt
      have HT : Hid (ds.take (k+1) = ds.take k ++ [ds[k]]) := List.take_succ_eq_append_getElem hlt
      generalize ds[k] = r at *
      have C := Lib.hid (fun w h => iCopyR_c r Ab cb An cn At ct Ak ck w h hzk)
      obtain ⟨k0, k1, k2, k3, k4, k5, k6, k7⟩ := hr
      unfold vrule at C
      have xr := Ext_alloc (.cells #[.string r.nm, .int .i64 r.kind, .int .i64 r.size, .bool r.little, .slice Ab r.bytes.length cb, .slice An r.names.length cn, .slice At r.tags.length ct, .slice Ak r.kids.length ck] 35) (Ext.refl wr)
      have hd0 := he.trans xr
      have hd := Ext_drew hd0
      have xd := xr.trans (Ext_drew (Ext.refl (wr.alloc (.cells #[.string r.nm, .int .i64 r.kind, .int .i64 r.size, .bool r.little, .slice Ab r.bytes.length cb, .slice An r.names.length cn, .slice At r.tags.length ct, .slice Ak r.kids.length ck] 35))))
      have cv : _ = some v := (hbo.out.ext xd).cell 0
      have hbx := Lib.hid ((Box.new wr #[.string r.nm, .int .i64 r.kind, .int .i64 r.size, .bool r.little, .slice Ab r.bytes.length cb, .slice An r.names.length cn, .slice At r.tags.length ct, .slice Ak r.kids.length ck] 35).ext (Ext_drew (Ext.refl (wr.alloc (.cells #[.string r.nm, .int .i64 r.kind, .int .i64 r.size, .bool r.little, .slice Ab r.bytes.length cb, .slice An r.names.length cn, .slice At r.tags.length ct, .slice Ak r.kids.length ck] 35)))))
      have cx := hbx.out.cell
      have HS := Lib.hid hs; have hzk := Lib.hid hzk
      have hbod := Lib.hid (hbo.out.ext xd)
      have hodd := Lib.hid (hod.out.ext xd)
      have hg3w := hbo.out.lt
      have hszd : Hid (W0.heap.size ≤ (wr.alloc (.cells #[.string r.nm, .int .i64 r.kind, .int .i64 r.size, .bool r.little, .slice Ab r.bytes.length cb, .slice An r.names.length cn, .slice At r.tags.length ct, .slice Ak r.kids.length ck] 35)).drew.heap.size) := by show _ ≤ _; rw [size_drew, World.size_alloc]; omega
      clear hs
      have b1 : (0 : Int) ≤ (k : Int) := by omega
      have b2 : (k : Int) < (ds.length : Int) := by omega
      go_wp2_with fail
      go_region_law (first
        | (go_simp; go_at_call 43; refine (C.out _ (HS.out.ext hd)).mono ?_; rintro _ w2 ⟨vb, vn, vt, vk, rfl, hro, hfr, he2⟩; have hro := Lib.hid hro; have hfr := Lib.hid hfr; have hbo3 := Lib.hid ((hbod.out.ext he2).ext (Ext_alloc (.cells #[.string r.nm, .int .i64 r.kind, .int .i64 r.size, .bool r.little, vb, vn, vt, vk] 35) (Ext.refl w2))); have c2 : _ = some v := (hbod.out.ext he2).cell 0; have c3 : _ = some v := hbo3.out.cell 0; have hsz2 : Hid (W0.heap.size ≤ (w2.alloc (.cells #[.string r.nm, .int .i64 r.kind, .int .i64 r.size, .bool r.little, vb, vn, vt, vk] 35)).heap.size) := (by have h1 := he2.size; have h2 := hszd.out; show _ ≤ _; rw [World.size_alloc]; omega); have hone := Lib.hid (vals_cells_one _ hro.out (szRl_short hzk.out).1); have hNv : Hid (v.ownBlock ≠ some w1.heap.size) := hnf.out v (List.mem_cons_self ..))
        | (refine step_app8 rfl (.tmp 19) (.tmp 22) _ rfl E_rule W0 (w2.alloc (.cells #[.string r.nm, .int .i64 r.kind, .int .i64 r.size, .bool r.little, vb, vn, vt, vk] 35)) v ps.length (ps.flatMap RV.cells) rfl (Own.ext (Own.ext hodd.out.row he2) (Ext_alloc _ (Ext.refl _))) hsz2.out ⟨w2.heap.size, 0, none⟩ 1 1 (RV.cells ⟨r, vb, vn, vt, vk⟩) rfl rfl (fun j u hu => (World.cell?_alloc_at' w2 (RV.cells ⟨r, vb, vn, vt, vk⟩) 35 j).trans hu) hone.out (by simp [maxLen]; omega) (by omega) ?_; intro v4 w4 ho4 hg4 hv4; have hbo4 := Lib.hid (Box.moved (hbo3.out) hg4 hNv.out); have c4 := hbo4.out.cell 0; have f4 := hbo4.out.free 0; have HO4 := Lib.hid (OwnD.snoc hodd.out he2 hro.out hfr.out hszd.out ho4 hg4 hv4); have HG4 := Lib.hid hg4; have HV4 := Lib.hid hv4; clear ho4 hg4 hv4; obtain ⟨A4, q4, hA4⟩ := HO4.out.shape; replace hA4 : v4 = .slice A4 (ps.length + 1) q4 := (by rw [hA4, List.length_append]; rfl); subst hA4))
      all_goals
        have hW := HSA.out
        have x3 := Ext_alloc (.cells #[.string r.nm, .int .i64 r.kind, .int .i64 r.size, .bool r.little, vb, vn, vt, vk] 35) (Ext.refl w2)
        have bV : ∀ g, v.ownBlock = some g → w.heap.size + 2 ≤ g := fun g hg => by have := (hod.out.block v (List.mem_cons_self ..) g hg).1; omega
        have e4 := ((hd.trans he2).trans x3).grown HG4.out (fun g hg => by have := bV g hg; omega)
        have P5 : Hid (Box (w4.setCell ⟨w1.heap.size, 0, none⟩ (.slice A4 (ps.length + 1) q4)) w.heap.size #[.slice (some ⟨b, off, none⟩) ds.length c] 26) := (((hbp.out.ext (xd.trans he2)).ext x3).moved HG4.out (fun hh => by have := bV _ hh; omega)).other (by omega) 0 _
        have R5 : Hid (Box (w4.setCell ⟨w1.heap.size, 0, none⟩ (.slice A4 (ps.length + 1) q4)) (w.heap.size + 1) #[.slice none 0 0] 26) := (((hbr.out.ext (xd.trans he2)).ext x3).moved HG4.out (fun hh => by have := bV _ hh; omega)).other (by omega) 0 _
        have O5 : Hid (Box (w4.setCell ⟨w1.heap.size, 0, none⟩ (.slice A4 (ps.length + 1) q4)) w1.heap.size #[.slice A4 (ps.length + 1) q4] 26) := hbo4.out.set 0 (.slice A4 (ps.length + 1) q4)
        have NF5 : Hid (∀ u ∈ (Value.slice A4 (ps.length + 1) q4) :: (ps ++ [(⟨r, vb, vn, vt, vk⟩ : RV)]).flatMap RV.vals, u.ownBlock ≠ some w1.heap.size) := by
          intro u hu hh
          have hx2 := he2.size
          rw [size_drew, World.size_alloc] at hx2
          rcases List.mem_cons.1 hu with rfl | hu
          · rcases HV4.out with h4 | h4
            · rw [h4] at hh; exact hNv.out hh
            · rw [h4] at hh; injection hh with hh; rw [World.size_alloc] at hh; omega
          · rw [List.flatMap_append] at hu
            rcases List.mem_append.1 hu with hu | hu
            · exact hnf.out u (List.mem_cons_of_mem _ hu) hh
            · rw [List.flatMap_cons, List.flatMap_nil, List.append_nil] at hu
              have h4 := (hro.out.block u hu _ hh).1
              rw [size_drew, World.size_alloc] at h4; omega
        have D5 : Hid (OwnD W0 (w4.setCell ⟨w1.heap.size, 0, none⟩ (.slice A4 (ps.length + 1) q4)) (.slice A4 (ps.length + 1) q4) (ps ++ [⟨r, vb, vn, vt, vk⟩])) := HO4.out.keep (grown_set w4 ⟨w1.heap.size, 0, none⟩ _) (fun u hu g hg hh => by injection hh with hh; subst hh; exact NF5.out u hu hg)
        have E5 : Hid (Ext w (w4.setCell ⟨w1.heap.size, 0, none⟩ (.slice A4 (ps.length + 1) q4))) := e4.setCell (p := ⟨w1.heap.size, 0, none⟩) (by show w.heap.size ≤ w1.heap.size; omega) _
        have S5 : Hid (W0.heap.size ≤ (w4.setCell ⟨w1.heap.size, 0, none⟩ (.slice A4 (ps.length + 1) q4)).heap.size) := by
          have h1 := HG4.out.size; have h2 := hsz2.out
          show _ ≤ _; simp only [World.size_setCell]; omega
        have N5 : Hid (rulesOf (ps ++ [⟨r, vb, vn, vt, vk⟩]) = ds.take (k + 1)) := by show _ = _; rw [rulesOf_append, hps.out, HT.out]; rfl
        clear hW x3 bV e4
        go_wp2
        go_roundw
        case rel => exact ⟨k + 1, ps ++ [⟨r, vb, vn, vt, vk⟩], _, by omega, by go_num, by simp; omega, by simp; omega, N5, D5, P5, R5, O5, NF5, E5.out, S5.out⟩
        case measure => simp [intOf]; omega
    · obtain rfl : k = ds.length := by omega
      obtain ⟨A5, c5, hA5⟩ := hod.out.shape
      subst hA5
      have hN : rulesOf ps = ds := by rw [hps.out, List.take_length]
      have HN := Lib.hid hN
      have cv : _ = some (Value.slice A5 ps.length c5) := hbo.out.cell 0
      have cr : _ = some (Value.slice none 0 0) := hbr.out.cell 0
      have fr := hbr.out.free 0
      have G := grown_set wr ⟨w.heap.size + 1, 0, none⟩ (.slice A5 ps.length c5)
      have D5 : Hid (OwnD w (wr.setCell ⟨w.heap.size + 1, 0, none⟩ (.slice A5 ps.length c5)) (.slice A5 ps.length c5) ps) := (hod.out.keep G (fun u hu g hg hh => by have h1 := (hod.out.block u hu g hg).1; have := HSA.out; injection hh with hh; simp at hh; omega)).down (by have := HSA.out; omega)
      have E5 : Hid (Ext w (wr.setCell ⟨w.heap.size + 1, 0, none⟩ (.slice A5 ps.length c5))) := he.setCell (p := ⟨w.heap.size + 1, 0, none⟩) (by show w.heap.size ≤ w.heap.size + 1; omega) _
      have z5 : (wr.setCell ⟨w.heap.size + 1, 0, none⟩ (.slice A5 ps.length c5)).cell? ⟨w.heap.size + 1, 0, none⟩ = some (.slice A5 ps.length c5) := World.cell?_setCell_same _ _ _ cr
      clear hN G
      go_wp2
      exact bodyPost_ret (v := .agg #[.slice A5 ps.length c5]) (by simp [results, Try.results27, go_sem, z5]) rfl ⟨_, ps, rfl, HN.out, D5.out, E5.out⟩
end Go.Proofs.Ytophjmphjdhjoaa

/- Draws of descriptions: l4Make whole; a description while it is drawn. -/
namespace Go.Proofs.Ytophjmphjdhjoaa
open Go.RowKit Go.Sort

theorem l4Make_c (Ad : Option Addr) (ds : List DRule) (cd : Nat) (kind : Int) (hkind : 1 ≤ kind ∧ kind ≤ 10) (hDn : ds.length ≤ 24) (hki : kind = 1 ∨ ∃ i, ∃ h : i < ds.length, ds[i].kind = 1) (hMD : MadeD ds)
    (wb w : World) (p : Nat) (A : Option Addr) (l : List UInt8) (c : Nat) (hA : Bs wb A l c) (hC : Cur wb w p A l c) (hD : ∀ w', w.grownBy w' (some p) → RdD w' Ad ds cd) :
    Calls Try.prog 37 #[.pointer (some ⟨p, 0, none⟩), vdesc (.slice Ad ds.length cd), .int .i64 kind] w fun e w' => ∃ q : RV, e = .returned (vrule q.r q.vb q.vn q.vt q.vk) ∧ SmallR q.r ∧ q.r.kind = kind ∧ MadeR ds q.r ∧ RuleOwn wb w' q ∧ Far q.vals ∧ (∀ u ∈ q.vals, ∀ b, u.ownBlock = some b → w.heap.size ≤ b) ∧ Cur wb w' p A l c ∧ w.grownBy w' (some p) := by
  by_cases h6 : kind = 6
  · exact l4Make6_c Ad ds cd kind h6 (by omega) hki hMD wb w p A l c hA hC hD
  by_cases h7 : kind = 7
  · exact l4Make7_c Ad ds cd kind h7 (by omega) hki hMD wb w p A l c hA hC hD
  exact l4Make1_c Ad ds cd kind ⟨hkind.1, hkind.2, h6, h7⟩ (by omega) hki hMD wb w p A l c hA hC hD
/-- a rule that another call made is appended to rules of one's own -/
theorem OwnD.snoc2 {wb W w4 : World} {v v' : Value} {ps : List RV} {p : RV} (h : OwnD wb W v ps) (hro : RuleOwn wb W p) (hfr : Far p.vals) {n0 : Nat} (hold : ∀ u ∈ v :: ps.flatMap RV.vals, ∀ b, u.ownBlock = some b → b < n0) (hnew : ∀ u ∈ p.vals, ∀ b, u.ownBlock = some b → n0 ≤ b)
    (ho4 : Own 35 8 wb w4 v' (ps.length + 1) (ps.flatMap RV.cells ++ p.cells)) (hg4 : W.grownBy w4 v.ownBlock) (hv : v'.ownBlock = v.ownBlock ∨ v'.ownBlock = some W.heap.size) : OwnD wb w4 v' (ps ++ [p]) := by
  have hbl := h.block
  have hfar := h.far
  unfold Far at hfar
  rw [List.pairwise_cons] at hfar
  refine ⟨?_, fun q hq => ?_, ?_⟩
  · rw [List.length_append, List.flatMap_append, List.flatMap_cons, List.flatMap_nil, List.append_nil]; exact ho4
  · rcases List.mem_append.1 hq with hq | hq
    · refine (h.each q hq).keep hg4 (fun u hu g hg he => ?_)
      exact hfar.1 u (List.mem_flatMap.2 ⟨q, hq, hu⟩) g he hg
    · obtain rfl := List.mem_singleton.1 hq
      refine hro.keep hg4 (fun u hu g hg he => ?_)
      have h1 := hnew u hu g hg
      have h2 := hold v (List.mem_cons_self ..) g he
      omega
  · rw [List.flatMap_append, List.flatMap_cons, List.flatMap_nil, List.append_nil]
    refine Far.cons (Far.append hfar.2 hfr (fun u hu x hx g h1 h2 => by have := hold u (List.mem_cons_of_mem _ hu) g h1; have := hnew x hx g h2; omega)) (fun x hx g h1 h2 => ?_)
    rcases hv with hv | hv
    · rw [hv] at h1
      rcases List.mem_append.1 hx with hx | hx
      · exact hfar.1 x hx g h1 h2
      · have := hold v (List.mem_cons_self ..) g h1; have := hnew x hx g h2; omega
    · rw [hv] at h1
      injection h1 with h1
      rcases List.mem_append.1 hx with hx | hx
      · have := (hbl x (List.mem_cons_of_mem _ hx) g h2).2; omega
      · have := (hro.block x hx g h2).2; omega
/-- a description while it is drawn: the local's box g, the result's box R -/
structure DS (wb w wr : World) (p : Nat) (A : Option Addr) (l : List UInt8) (c g : Nat) (v : Value) (ps : List RV) (R : Nat) : Prop where
  box : Box wr g #[v] 26
  own : OwnD wb wr v ps
  new : ∀ u ∈ v :: ps.flatMap RV.vals, ∀ b, u.ownBlock = some b → w.heap.size ≤ b ∧ b ≠ g ∧ b ≠ p ∧ b ≠ R
  cur : Cur wb wr p A l c
  grow : w.grownBy wr (some p)
  gw : w.heap.size ≤ g
  gb : wb.heap.size ≤ g
  gp : g ≠ p
  res : Box wr R #[.slice none 0 0] 26
  gR : g ≠ R
  pR : p ≠ R
theorem DS.moved {wb w wr w' : World} {p : Nat} {A : Option Addr} {l : List UInt8} {c g : Nat} {v : Value} {ps : List RV} {R : Nat} (h : DS wb w wr p A l c g v ps R) (hC : Cur wb w' p A l c) (hg : wr.grownBy w' (some p)) : DS wb w w' p A l c g v ps R :=
  ⟨h.box.moved hg (some_ne h.gp.symm), h.own.keep hg (fun u hu b hb hh => by injection hh with hh; exact (h.new u hu b hb).2.2.1 hh.symm), h.new, hC, h.grow.trans hg, h.gw, h.gb, h.gp, h.res.moved hg (some_ne h.pR), h.gR, h.pR⟩
theorem DS.ext {wb w wr w' : World} {p : Nat} {A : Option Addr} {l : List UInt8} {c g : Nat} {v : Value} {ps : List RV} {R : Nat} (h : DS wb w wr p A l c g v ps R) (e : Ext wr w') : DS wb w w' p A l c g v ps R :=
  h.moved (h.cur.ext e) (grown_ext e _)
/-- rules of small sizes -/
def SmallD (ds : List DRule) : Prop := ds.length ≤ 24 ∧ ∀ r ∈ ds, SmallR r
theorem SmallR.short {r : DRule} (h : SmallR r) : ShortR r := by have := h.lens; unfold ShortR; omega
theorem DS.rd {wb w wr : World} {p : Nat} {A : Option Addr} {l : List UInt8} {c g : Nat} {v : Value} {ps : List RV} {R : Nat} (h : DS wb w wr p A l c g v ps R) (hs : SmallD (rulesOf ps)) : ∃ Ad cd, v = .slice Ad ps.length cd ∧ ∀ w', wr.grownBy w' (some p) → RdD w' Ad (rulesOf ps) cd := by
  obtain ⟨Ad, cd, hv⟩ := h.own.shape
  refine ⟨Ad, cd, hv, fun w' hg => ?_⟩
  have h1 : OwnD wb w' v ps := h.own.keep hg (fun u hu b hb hh => by injection hh with hh; exact (h.new u hu b hb).2.2.1 hh.symm)
  obtain ⟨A2, c2, hv2, hR⟩ := h1.rd (by have := hs.1; simp [rulesOf] at this; omega) (fun q hq => (hs.2 q.r (List.mem_map_of_mem hq)).short)
  rw [hv] at hv2
  injection hv2 with q1 _ q2
  subst q1; subst q2
  exact hR
theorem DS.snoc {wb w W w4 : World} {p : Nat} {A : Option Addr} {l : List UInt8} {c g : Nat} {v v' : Value} {ps : List RV} {R : Nat} {q : RV} (h : DS wb w W p A l c g v ps R) (hro : RuleOwn wb W q) (hfr : Far q.vals) {n0 : Nat} (hold : ∀ u ∈ v :: ps.flatMap RV.vals, ∀ b, u.ownBlock = some b → b < n0) (hnew : ∀ u ∈ q.vals, ∀ b, u.ownBlock = some b → n0 ≤ b) (hng : w.heap.size ≤ n0 ∧ g < n0 ∧ p < n0 ∧ R < n0)
    (ho4 : Own 35 8 wb w4 v' (ps.length + 1) (ps.flatMap RV.cells ++ q.cells)) (he : Ext wb w4) (hg4 : W.grownBy w4 v.ownBlock) (hv : v'.ownBlock = v.ownBlock ∨ v'.ownBlock = some W.heap.size) :
    (w4.cell? ⟨g, 0, none⟩ = some v ∧ w4.frozen? ⟨g, 0, none⟩ = false) ∧ DS wb w (w4.setCell ⟨g, 0, none⟩ v') p A l c g v' (ps ++ [q]) R := by
  have hB : Box w4 g #[v] 26 := Box.moved h.box hg4 (fun hh => (h.new v (List.mem_cons_self ..) g hh).2.1 rfl)
  have hR : Box w4 R #[.slice none 0 0] 26 := Box.moved h.res hg4 (fun hh => (h.new v (List.mem_cons_self ..) R hh).2.2.2 rfl)
  have hO := h.own.snoc2 hro hfr hold hnew ho4 hg4 hv
  have hn : ∀ u ∈ v' :: (ps ++ [q]).flatMap RV.vals, ∀ b, u.ownBlock = some b → w.heap.size ≤ b ∧ b ≠ g ∧ b ≠ p ∧ b ≠ R := by
    intro u hu b hb
    rw [List.flatMap_append, List.flatMap_cons, List.flatMap_nil, List.append_nil] at hu
    rcases List.mem_cons.1 hu with rfl | hu
    · rcases hv with hv | hv
      · exact h.new v (List.mem_cons_self ..) b (hv.symm.trans hb)
      · rw [hv] at hb; injection hb with hb
        have h1 := h.box.lt; have h2 := h.res.lt; have h3 := h.cur.lt; have h4 := h.grow.size
        exact ⟨by omega, by omega, by omega, by omega⟩
    · rcases List.mem_append.1 hu with hu | hu
      · exact h.new u (List.mem_cons_of_mem _ hu) b hb
      · have := hnew u hu b hb
        exact ⟨by omega, by omega, by omega, by omega⟩
  refine ⟨⟨hB.cell 0, hB.free 0⟩, hB.set 0 v', hO.keep (grown_set w4 ⟨g, 0, none⟩ v') (fun u hu b hb hh => by injection hh with hh; exact (hn u hu b hb).2.1 hh.symm), hn, ?_, ?_, h.gw, h.gb, h.gp, hR.other (fun hh => h.gR hh.symm) 0 v', h.gR, h.pR⟩
  · exact (Cur.kept h.cur hg4 (fun hh => (h.new v (List.mem_cons_self ..) p hh).2.2.1 rfl) he).set (a := ⟨g, 0, none⟩) h.gp h.gb v'
  · exact grown_new (a := ⟨g, 0, none⟩) (grown_own h.grow (fun b hh => (h.new v (List.mem_cons_self ..) b hh).1) hg4) h.gw v'
/-- what a drawn description is -/
structure MadeV (wb w w' : World) (v : Value) (ps : List RV) : Prop where
  made : MadeD (rulesOf ps)
  small : SmallD (rulesOf ps)
  first : ∃ h : 0 < (rulesOf ps).length, (rulesOf ps)[0].kind = 1
  own : OwnD wb w' v ps
  new : ∀ u ∈ v :: ps.flatMap RV.vals, ∀ b, u.ownBlock = some b → w.heap.size ≤ b
end Go.Proofs.Ytophjmphjdhjoaa

/- Draws of descriptions: l4Description. (Printed by gen/gx23.py.) -/
namespace Go.Proofs.Ytophjmphjdhjoaa
open Go.RowKit Go.Sort

set_option maxRecDepth 100000 in
set_option maxHeartbeats 8000000 in
theorem l4Description_c (wb w : World) (p : Nat) (A : Option Addr) (l : List UInt8) (c : Nat) (hA : Bs wb A l c) (hC : Cur wb w p A l c) :
    Calls Try.prog 36 #[.pointer (some ⟨p, 0, none⟩)] w fun e w' => ∃ v ps, e = .returned (vdesc v) ∧ MadeV wb w w' v ps ∧ ps.length ≤ 6 ∧ Cur wb w' p A l c ∧ w.grownBy w' (some p) := by
  have hplt := hC.lt
  have hbw := hC.2.1.size
  have CBe := Lib.hid (fun n w h hn => l1Below_c n wb w p A l c hA h hn)
  have CM := Lib.hid (fun Ad ds cd kind hk h1 h2 h3 w h hD => l4Make_c Ad ds cd kind hk h1 h2 h3 wb w p A l c hA h hD)
  unfold vdesc vrule at CM
  obtain ⟨W0, hW0, HR, HB, e0, hsA⟩ := boxes2' w #[.slice none 0 0] #[.slice none 0 0] 26 26
  have S0 : Hid (DS wb w W0 p A l c (w.heap.size + 1) (.slice none 0 0) [] w.heap.size) :=
    ⟨HB, ⟨⟨by simp, .inl ⟨rfl, rfl⟩⟩, by simp, Far.one _⟩, by simp [Value.ownBlock], hC.ext e0, grown_ext e0 _, by omega, by omega, by omega, HR, by omega, by omega⟩
  have cd0 : _ = some (Value.slice none 0 0) := S0.out.box.cell 0
  have yd0 := S0.out.box.free 0
  clear HB HR hC
  have HSZ := Lib.hid hsA; clear hsA
  go_enter Try.func36, Try.ntmps36
  go_wp2_with fail
  rw [← hW0.out]
  have SX := Lib.hid (S0.out.ext (Ext_drew (Ext.refl W0)))
  have HRD : Hid (∀ w', (W0.drew).grownBy w' (some p) → RdD w' none [] 0) := fun w' _ => RdD.nil w'
  have HMX : Hid (([] : List RV).length + 1 ≤ maxLen ∧ (([] : List RV).length + 1) * 136 ≤ 140737488355328) := ⟨by simp [maxLen], by simp⟩
  have HOLD : Hid (∀ u ∈ (Value.slice none 0 0) :: ([] : List RV).flatMap RV.vals, ∀ b, u.ownBlock = some b → b < (W0.drew).heap.size) := by
    intro u hu b hb
    have := (SX.out.own.block u hu b hb).2; omega
  have HNG : Hid (w.heap.size ≤ (W0.drew).heap.size ∧ w.heap.size + 1 < (W0.drew).heap.size ∧ p < (W0.drew).heap.size ∧ w.heap.size < (W0.drew).heap.size) := by
    have h1 := SX.out.grow.size; have h2 := SX.out.box.lt; have h3 := SX.out.cur.lt; have h4 := SX.out.res.lt
    exact ⟨by omega, by omega, by omega, by omega⟩
  have HMN := Lib.hid MadeD.nil
  go_cut [12] from 6 to 13 (fun _ wx => ∃ q v, SmallR q.r ∧ Hid (MadeR [] q.r) ∧ Hid (q.r.kind = 1) ∧ Hid (DS wb w wx p A l c (w.heap.size + 1) v [q] w.heap.size))
  case first =>
    go_region_law (first
          | (go_simp; go_at_call 37; refine (CM.out none [] 0 1 (by omega) (by simp) (.inl rfl) HMN.out _ SX.out.cur HRD.out).mono ?_; rintro _ w5 ⟨q, rfl, hsm, hkq, hmr, hro, hfr, hnb, hC5, hg5⟩; have S5 := Lib.hid (DS.moved (Hid.out SX) hC5 hg5); have c5 : _ = some (Value.slice none 0 0) := S5.out.box.cell 0; have S5' := Lib.hid (S5.out.ext (Ext_alloc (.cells #[.string q.r.nm, .int .i64 q.r.kind, .int .i64 q.r.size, .bool q.r.little, q.vb, q.vn, q.vt, q.vk] 35) (Ext.refl _))); have c5' : _ = some (Value.slice none 0 0) := S5'.out.box.cell 0; have hone := Lib.hid (vals_cells_one q hro hsm.short); have HRO := Lib.hid (hro.ext (Ext_alloc (.cells #[.string q.r.nm, .int .i64 q.r.kind, .int .i64 q.r.size, .bool q.r.little, q.vb, q.vn, q.vt, q.vk] 35) (Ext.refl _))); have HSM := Lib.hid hsm; have HMR := Lib.hid hmr; have HKQ := Lib.hid hkq; have HFR := Lib.hid hfr; have HNB := Lib.hid hnb; clear hC5 hg5 hsm hmr hkq hro hfr hnb)
          | (refine step_app8 rfl (.tmp 7) (.tmp 11) _ rfl E_rule wb (w5.alloc (.cells #[.string q.r.nm, .int .i64 q.r.kind, .int .i64 q.r.size, .bool q.r.little, q.vb, q.vn, q.vt, q.vk] 35)) (Value.slice none 0 0) (([] : List RV)).length ((([] : List RV)).flatMap RV.cells) rfl S5'.out.own.row S5'.out.cur.2.1.size ⟨w5.heap.size, 0, none⟩ 1 1 (RV.cells q) rfl rfl (fun j u hu => (World.cell?_alloc_at' w5 (RV.cells q) 35 j).trans hu) hone.out HMX.out.1 HMX.out.2 ?_; intro v7 w7 ho7 hg7 hv7; obtain ⟨⟨z7, y7⟩, M7⟩ := DS.snoc S5'.out HRO.out HFR.out HOLD.out HNB.out HNG.out ho7 (S5'.out.cur.2.1.grown hg7 (fun k hk => (World.ownsRow.lt S5'.out.own.row k hk).1)) hg7 hv7; obtain ⟨A7, c7, hsh⟩ := M7.own.shape; replace hsh : v7 = .slice A7 ((([] : List RV)).length + 1) c7 := (by rw [hsh, List.length_append]; rfl); subst hsh; clear ho7 hg7 hv7; have M7 := Lib.hid M7))
    all_goals
      go_wp2_with fail
      go_meet
      exact ⟨q, _, HSM.out, HMR.out, HKQ.out, M7⟩
  case rest =>
    obtain ⟨q, v, hsq, hmq, hkq, hS⟩ := hcut
    clear S0 SX HRD HMX HOLD HNG cd0 yd0 HMN
    go_wp2_with fail
    refine (CBe.out 6 _ hS.out.cur (by omega)).mono ?_; rintro _ w2 ⟨y, hy, rfl, hC2, hg2⟩
    have hyn : y < 6 := by unfold below at hy; rw [if_neg (by omega)] at hy; omega
    have S2 := Lib.hid (hS.out.moved hC2 hg2)
    clear hy hC2 hg2 hS
    have HM1 : Hid (MadeD (rulesOf [q])) := by show MadeD _; have := MadeD.nil.snoc hmq.out; simpa [rulesOf] using this
    go_wp2
    go_loopw [4] (fun t wr => ∃ (i : Nat) (v : Value) (ps : List RV), i < 6 ∧ t = .int .i64 i ∧ Hid (ps.length + i ≤ 6 ∧ MadeD (rulesOf ps) ∧ (∀ q ∈ ps, SmallR q.r) ∧ ∃ h : 0 < (rulesOf ps).length, (rulesOf ps)[0].kind = 1) ∧ Hid (DS wb w wr p A l c (w.heap.size + 1) v ps w.heap.size)) (fun t _ => (intOf t).toNat)
    case atStart => exact ⟨y, v, [q], hyn, rfl, ⟨by simp; omega, HM1.out, fun r hr => by rw [List.mem_singleton.1 hr]; exact hsq, ⟨by simp [rulesOf], by simpa [rulesOf] using hkq.out⟩⟩, S2⟩
    case round =>
      clear S2 HM1 hmq hkq
      obtain ⟨i, v, ps, hi6, rfl, hl, hS⟩ := hrel
      have hSD : Hid (SmallD (rulesOf ps)) := ⟨by have := hl.out.1; simp [rulesOf]; omega, fun r hr => by obtain ⟨q, hq, rfl⟩ := List.mem_map.1 hr; exact hl.out.2.2.1 q hq⟩
      by_cases hi0 : 0 < i
      · obtain ⟨Ad, cd, hv, _⟩ := hS.out.rd hSD.out
        subst hv
        have CP : Hid (∀ (k : Nat) (w' : World), k < 10 → DS wb w w' p A l c (w.heap.size + 1) (.slice Ad ps.length cd) ps w.heap.size → Calls Try.prog 37 #[.pointer (some ⟨p, 0, none⟩), .agg #[.slice Ad ps.length cd], .int .i64 (1 + (k : Int))] w' fun e w'' => ∃ q : RV, e = .returned (.agg #[.string q.r.nm, .int .i64 q.r.kind, .int .i64 q.r.size, .bool q.r.little, q.vb, q.vn, q.vt, q.vk]) ∧ SmallR q.r ∧ q.r.kind = 1 + (k : Int) ∧ MadeR (rulesOf ps) q.r ∧ RuleOwn wb w'' q ∧ Far q.vals ∧ (∀ u ∈ q.vals, ∀ b, u.ownBlock = some b → w'.heap.size ≤ b) ∧ Cur wb w'' p A l c ∧ w'.grownBy w'' (some p)) := fun k w' hk hS' => by
          obtain ⟨Ad', cd', hv', hrd⟩ := hS'.rd hSD.out
          injection hv' with q1 _ q2
          subst q1; subst q2
          have h1 := CM.out Ad (rulesOf ps) cd (1 + (k : Int)) (by omega) (by have := hl.out.1; simp [rulesOf]; omega) (.inr ⟨0, hl.out.2.2.2⟩) hl.out.2.1 w' hS'.cur hrd
          rw [show (rulesOf ps).length = ps.length by simp [rulesOf]] at h1
          exact h1
        have cd0 : _ = some (Value.slice Ad ps.length cd) := hS.out.box.cell 0
        have SX := Lib.hid (hS.out.ext (Ext_drew (Ext.refl wr)))
        have HMX : Hid (ps.length + 1 ≤ maxLen ∧ (ps.length + 1) * 136 ≤ 140737488355328) := by have := hl.out.1; exact ⟨by simp only [maxLen]; omega, by omega⟩
        have HW10 : Hid (∀ x : Nat, below 10 x → x < 10 ∧ IntKind.i64.wrap (1 + (x : Int)) = 1 + (x : Int)) := fun x hx => by
          have : x < 10 := by unfold below at hx; rw [if_neg (by omega)] at hx; omega
          exact ⟨this, IntWalk.i64_in _ (by omega)⟩
        have HPre : Hid (∀ w', DS wb w w' p A l c (w.heap.size + 1) (.slice Ad ps.length cd) ps w.heap.size → (∀ u ∈ (Value.slice Ad ps.length cd) :: ps.flatMap RV.vals, ∀ b, u.ownBlock = some b → b < w'.heap.size) ∧ (w.heap.size ≤ w'.heap.size ∧ w.heap.size + 1 < w'.heap.size ∧ p < w'.heap.size ∧ w.heap.size < w'.heap.size)) := fun w' h => by
          have h1 := h.grow.size; have h2 := h.box.lt; have h3 := h.cur.lt; have h4 := h.res.lt
          exact ⟨fun u hu b hb => (h.own.block u hu b hb).2, by omega, by omega, by omega, by omega⟩
        go_wp2_with fail
        go_region_law (first
          | (go_simp; go_at_call 20; refine (CBe.out 10 _ SX.out.cur (by omega)).mono ?_; rintro _ w4 ⟨x, hx, rfl, hC4, hg4⟩; have SY := Lib.hid (DS.moved SX.out hC4 hg4); have c4 : _ = some (Value.slice Ad ps.length cd) := SY.out.box.cell 0; have HX := Lib.hid (HW10.out x hx); have hw11 := HX.out.2; have HOLD := Lib.hid (HPre.out _ SY.out).1; have HNG := Lib.hid (HPre.out _ SY.out).2; clear hC4 hg4 hx)
          | (go_simp; go_at_call 37; refine (CP.out x _ HX.out.1 SY.out).mono ?_; rintro _ w5 ⟨q, rfl, hsm, hkq, hmr, hro, hfr, hnb, hC5, hg5⟩; have S5 := Lib.hid (DS.moved (Hid.out SY) hC5 hg5); have c5 : _ = some (Value.slice Ad ps.length cd) := S5.out.box.cell 0; have S5' := Lib.hid (S5.out.ext (Ext_alloc (.cells #[.string q.r.nm, .int .i64 q.r.kind, .int .i64 q.r.size, .bool q.r.little, q.vb, q.vn, q.vt, q.vk] 35) (Ext.refl _))); have c5' : _ = some (Value.slice Ad ps.length cd) := S5'.out.box.cell 0; have hone := Lib.hid (vals_cells_one q hro hsm.short); have HRO := Lib.hid (hro.ext (Ext_alloc (.cells #[.string q.r.nm, .int .i64 q.r.kind, .int .i64 q.r.size, .bool q.r.little, q.vb, q.vn, q.vt, q.vk] 35) (Ext.refl _))); have HSM := Lib.hid hsm; have HMR := Lib.hid hmr; have HKQ := Lib.hid hkq; have HFR := Lib.hid hfr; have HNB := Lib.hid hnb; clear hC5 hg5 hsm hmr hkq hro hfr hnb)
          | (refine step_app8 rfl (.tmp 21) (.tmp 28) _ rfl E_rule wb (w5.alloc (.cells #[.string q.r.nm, .int .i64 q.r.kind, .int .i64 q.r.size, .bool q.r.little, q.vb, q.vn, q.vt, q.vk] 35)) (Value.slice Ad ps.length cd) (ps).length ((ps).flatMap RV.cells) rfl S5'.out.own.row S5'.out.cur.2.1.size ⟨w5.heap.size, 0, none⟩ 1 1 (RV.cells q) rfl rfl (fun j u hu => (World.cell?_alloc_at' w5 (RV.cells q) 35 j).trans hu) hone.out HMX.out.1 HMX.out.2 ?_; intro v7 w7 ho7 hg7 hv7; obtain ⟨⟨z7, y7⟩, M7⟩ := DS.snoc S5'.out HRO.out HFR.out HOLD.out HNB.out HNG.out ho7 (S5'.out.cur.2.1.grown hg7 (fun k hk => (World.ownsRow.lt S5'.out.own.row k hk).1)) hg7 hv7; obtain ⟨A7, c7, hsh⟩ := M7.own.shape; replace hsh : v7 = .slice A7 ((ps).length + 1) c7 := (by rw [hsh, List.length_append]; rfl); subst hsh; clear ho7 hg7 hv7; have M7 := Lib.hid M7))
        all_goals
          have HL' : Hid ((ps ++ [q]).length + (i - 1) ≤ 6 ∧ MadeD (rulesOf (ps ++ [q])) ∧ (∀ u ∈ ps ++ [q], SmallR u.r) ∧ ∃ h : 0 < (rulesOf (ps ++ [q])).length, (rulesOf (ps ++ [q]))[0].kind = 1) := by
            obtain ⟨h1, h2, h3, h4, h5⟩ := hl.out
            have e : rulesOf (ps ++ [q]) = rulesOf ps ++ [q.r] := by simp [rulesOf]
            refine ⟨by simp; omega, by rw [e]; exact h2.snoc HMR.out, fun r hr => ?_, ?_⟩
            · rcases List.mem_append.1 hr with h6 | h6
              · exact h3 r h6
              · rw [List.mem_singleton.1 h6]; exact HSM.out
            · refine ⟨by rw [e]; simp, ?_⟩
              simp only [e]
              rw [List.getElem_append_left h4]; exact h5
          clear hS cd0 SX HMX HPre hSD hl CP HX hw11 HOLD HNG HFR HNB HRO hone SY c4 S5 c5 S5' c5' z7 y7
          go_wp2
          go_roundw
          case rel => exact ⟨i - 1, _, ps ++ [q], by omega, by go_num, HL', M7⟩
          case measure => simp [intOf]; omega
      · obtain rfl : i = 0 := by omega
        obtain ⟨Ad, cd, hv, _⟩ := hS.out.rd hSD.out
        subst hv
        have cd0 : _ = some (Value.slice Ad ps.length cd) := hS.out.box.cell 0
        have cr0 : _ = some (Value.slice none 0 0) := hS.out.res.cell 0
        have yr0 := hS.out.res.free 0
        have OUT : Hid (OwnD wb (wr.setCell ⟨w.heap.size, 0, none⟩ (.slice Ad ps.length cd)) (.slice Ad ps.length cd) ps ∧ Cur wb (wr.setCell ⟨w.heap.size, 0, none⟩ (.slice Ad ps.length cd)) p A l c ∧ w.grownBy (wr.setCell ⟨w.heap.size, 0, none⟩ (.slice Ad ps.length cd)) (some p)) :=
          ⟨hS.out.own.keep (grown_set wr ⟨w.heap.size, 0, none⟩ _) (fun u hu b hb hh => by injection hh with hh; exact (hS.out.new u hu b hb).2.2.2 hh.symm), hS.out.cur.set (a := ⟨w.heap.size, 0, none⟩) (fun hh => hS.out.pR hh.symm) hbw _, grown_new (a := ⟨w.heap.size, 0, none⟩) hS.out.grow (Nat.le_refl _) _⟩
        have z5 : (wr.setCell ⟨w.heap.size, 0, none⟩ (.slice Ad ps.length cd)).cell? ⟨w.heap.size, 0, none⟩ = some (.slice Ad ps.length cd) := World.cell?_setCell_same _ _ _ cr0
        have HNW := Lib.hid (fun u hu b hb => (hS.out.new u hu b hb).1)
        clear hS
        go_wp2
        refine bodyPost_ret (v := vdesc (.slice Ad ps.length cd)) (by simp [results, Try.results36, go_sem, z5, vdesc]) rfl ⟨_, ps, rfl, ⟨hl.out.2.1, hSD.out, hl.out.2.2.2, OUT.out.1, HNW.out⟩, by have := hl.out.1; omega, OUT.out.2.1, OUT.out.2.2⟩
end Go.Proofs.Ytophjmphjdhjoaa
