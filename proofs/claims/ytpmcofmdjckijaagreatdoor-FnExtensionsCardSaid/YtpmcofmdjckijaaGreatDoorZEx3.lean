/- Draws of descriptions: l4Make at kind 7. (Printed by gen/gx22.py.) -/
import Derived.Test.YtpmcofmdjckijaaGreatDoorZEx2
import Derived.IntWalk
import Derived.Deep.RegionHeld3
import Derived.Deep.DeepCutAuto
import Derived.OrdersHeld
set_option linter.unusedVariables false
set_option linter.unusedSimpArgs false
set_option maxRecDepth 100000
set_option maxHeartbeats 16000000
namespace Go.Proofs.YtpmcofmdjckijaaGreatDoor
open Go.RowKit Go.Sort
theorem l4Make7_c (Ad : Option Addr) (ds : List DRule) (cd : Nat) (kind : Int) (hkind : kind = 7) (hDn : ds.length ≤ 64) (hki : kind = 1 ∨ ∃ i, ∃ h : i < ds.length, ds[i].kind = 1) (hMD : MadeD ds)
 (wb w : World) (p : Nat) (A : Option Addr) (l : List UInt8) (c : Nat) (hA : Bs wb A l c) (hC : Cur wb w p A l c) (hD : ∀ w', w.grownBy w' (some p) → RdD w' Ad ds cd) :
 Calls Tryz.prog 21 #[.pointer (some ⟨p, 0, none⟩), vdesc (.slice Ad ds.length cd), .int .i64 kind] w fun e w' => ∃ q : RV, e = .returned (vrule q.r q.vb q.vn q.vt q.vk) ∧ SmallR q.r ∧ q.r.kind = kind ∧ MadeR ds q.r ∧ RuleOwn wb w' q ∧ Far q.vals ∧ (∀ u ∈ q.vals, ∀ b, u.ownBlock = some b → w.heap.size ≤ b) ∧ Cur wb w' p A l c ∧ w.grownBy w' (some p) := by
 have hplt := hC.lt
 have hbw := hC.2.1.size
 have CBe := Lib.hid (fun n w h hn => l1Below_c n wb w p A l c hA h hn)
 have COn := Lib.hid (fun n w h hn => l1Once_c n wb w p A l c hA h hn)
 have CS := Lib.hid (fun w h => l1StrLit_c [⟨#[97]⟩, ⟨#[105, 116, 101, 109]⟩, ⟨#[98]⟩, ⟨#[104, 101, 97, 100]⟩, ⟨#[120]⟩] (by simp) (by simp) 5 rfl #[.string ⟨#[97]⟩, .string ⟨#[105, 116, 101, 109]⟩, .string ⟨#[98]⟩, .string ⟨#[104, 101, 97, 100]⟩, .string ⟨#[120]⟩] rfl wb w p A l c hA h)
 have CF := Lib.hid (fun w => sFormatInt_c (ds.length : Int) w (by omega) (by omega))
 have hit := itoa_size (ds.length : Int) (by omega) (by omega)
 obtain ⟨it, hit0⟩ : ∃ it, itoaB (ds.length : Int) = it := ⟨_, rfl⟩
 rw [hit0] at hit CF
 have HIT := Lib.hid hit0
 clear hit0
 have HD := Lib.hid hD; have hki := Lib.hid hki; have hMD := Lib.hid hMD
 clear hD
 obtain ⟨W0, hW0, HP, HR, e0, hsA⟩ := boxes2' w #[.slice Ad ds.length cd] #[.string ⟨#[]⟩, .int .i64 0, .int .i64 0, .bool false, .slice none 0 0, .slice none 0 0, .slice none 0 0, .slice none 0 0] 26 51
 unfold vdesc
 go_enter Tryz.func21, Tryz.ntmps21
 go_wp2_with fail
 rw [← hW0.out]
 have C1 := CS.out W0 (hC.ext e0)
 rw [hsA] at C1
 have C1 := Lib.hid C1
 refine C1.out.mono ?_; rintro _ w1 ⟨nm0, hnm0, rfl, hC1, hg1⟩
 have HNM : Hid (∃ s ∈ heads, nm0 ++ it = s ++ itoaB (ds.length : Int)) := ⟨nm0, hnm0, by rw [HIT.out]⟩
 have hnm : nm0.size ≤ 4 := by simp at hnm0; rcases hnm0 with rfl | rfl | rfl | rfl | rfl <;> decide
 have G1 := (grown_ext e0 (some p)).trans hg1
 have HP1 := Lib.hid (HP.moved hg1 (some_ne (by omega)))
 have HR1 := Lib.hid (HR.moved hg1 (some_ne (by omega)))
 clear hnm0 hg1 C1 CS HP HR e0
 go_wp2_with fail
 refine (CF.out _).mono ?_; rintro _ w2 ⟨rfl, s2⟩
 have G2 := Lib.hid (G1.trans (grown_ext s2 _))
 have HP2 := Lib.hid (HP1.out.ext s2); have HR2 := Lib.hid (HR1.out.ext s2); have hC2 := hC1.ext s2
 clear G1 HP1 HR1 hC1 s2
 have hnl : (nm0 ++ it).size ≤ 24 := by have := ByteArray.size_append (a := nm0) (b := it); omega
 have x3 := Ext_alloc (.cells #[.string (nm0 ++ it), .int .i64 kind, .int .i64 0, .bool false, .slice none 0 0, .slice none 0 0, .slice none 0 0, .slice none 0 0] 51) (Ext.refl w2)
 have hgs := G2.out.size
 have M0 : Hid (Mk wb w (w2.alloc (.cells #[.string (nm0 ++ it), .int .i64 kind, .int .i64 0, .bool false, .slice none 0 0, .slice none 0 0, .slice none 0 0, .slice none 0 0] 51)) p A l c w2.heap.size ⟨⟨nm0 ++ it, kind, 0, false, [], [], [], []⟩, .slice none 0 0, .slice none 0 0, .slice none 0 0, .slice none 0 0⟩) :=
  ⟨Box.new w2 _ _, ⟨OwnL.nil _ _, OwnL.nil _ _, OwnL.nil _ _, OwnL.nil _ _⟩, by simp [Far, RV.vals, Value.ownBlock], by simp [RV.vals, Value.ownBlock], hC2.ext x3, G2.out.trans (grown_ext x3 _), hgs, by omega, by omega⟩
 have HP3 := Lib.hid (HP2.out.ext x3); have HR3 := Lib.hid (HR2.out.ext x3)
 have hlt2 : w.heap.size + 1 < w2.heap.size := HR2.out.lt
 clear HP2 HR2 hC2 G2 x3 CF
 obtain ⟨W3, hW3⟩ : ∃ W3, W3 = w2.alloc (.cells #[.string (nm0 ++ it), .int .i64 kind, .int .i64 0, .bool false, .slice none 0 0, .slice none 0 0, .slice none 0 0, .slice none 0 0] 51) := ⟨_, rfl⟩
 rw [← hW3] at M0 HP3 HR3
 have HW3 := Lib.hid hW3; clear hW3
 subst hkind
 have zp : _ = some (Value.slice Ad ds.length cd) := HP3.out.cell 0
 rw [HW3.out] at zp
 have hki' := hki.out.resolve_left (by omega)
 have hds0 : 0 < ds.length := by obtain ⟨i, hi, _⟩ := hki'; omega
 have CI := Lib.hid (l4Integer_c Ad ds cd hds0 hDn hki' wb W3 p A l c hA M0.out.cur (HD.out _ M0.out.grow))
 unfold vdesc at CI
 clear hki' hki HP3 HD
 go_wp2_with fail
 rw [← HW3.out]
 refine CI.out.mono ?_; rintro _ w4 ⟨x, hx, hxk, rfl, hC4, hg4⟩
 have HXK := Lib.hid hxk
 clear CI zp HW3 hxk
 have M4 := M0.out.moved hC4 hg4
 have HR4 := Lib.hid (HR3.out.moved hg4 (some_ne (by omega)))
 have x5 := Ext_alloc (.cells #[.int .i64 x] 3) (Ext.refl w4)
 have ho5 := OwnL.lit (f := vint) (e := 3) hC4.2.1 [(x : Int)] #[.int .i64 x] rfl 1 rfl (by omega)
 have M5 := M4.ext x5
 have z7 : _ = some (Value.slice none 0 0) := M5.box.cell 7
 have y7 := M5.box.free 7
 have hgl4 := M4.box.lt; have hpl4 := hC4.lt
 have hRl := HR4.out.lt
 have S6 : Hid (MS wb w ((w4.alloc (.cells #[.int .i64 x] 3)).setCell ⟨w2.heap.size, 7, none⟩ (.slice (some ⟨w4.heap.size, 0, none⟩) 1 1)) p A l c w2.heap.size ⟨⟨nm0 ++ it, 7, 0, false, [], [], [], [(x : Int)]⟩, .slice none 0 0, .slice none 0 0, .slice none 0 0, .slice (some ⟨w4.heap.size, 0, none⟩) 1 1⟩ (w.heap.size + 1)) :=
  ⟨M5.fresh_k ho5 (n0 := w4.heap.size) (fun b hb => by injection hb with hb; simp at hb; omega) (by simp [RV.vals, Value.ownBlock]) (by omega) (by omega) (by have := M4.grow.size; omega), (HR4.out.ext x5).other (by omega) 7 _, fun u hu b hb => by
   simp only [RV.vals, List.mem_cons, List.not_mem_nil, or_false] at hu
   rcases hu with rfl | rfl | rfl | rfl
   ·cases hb
   ·cases hb
   ·cases hb
   ·(have : some w4.heap.size = some b := hb); injection this; omega, by omega, by omega⟩
 clear M4 M5 ho5 x5 hC4 hg4 HR4 HR3 M0 hgl4 hpl4 hRl
 generalize hgg : w2.heap.size = g at *
 clear hgg
 go_wp2_with fail
 refine (CBe.out 3 _ S6.out.M.cur (by omega)).mono ?_; rintro _ w6 ⟨y, hy, rfl, hC6, hg6⟩
 have hyn : y < 3 := by unfold below at hy; rw [if_neg (by omega)] at hy; omega
 have S4 := Lib.hid (S6.out.moved hC6 hg6)
 clear hy hC6 hg6 S6 z7 y7
 go_wp2
 go_loopw [10] (fun t wr => ∃ (i : Nat) (r : DRule) (vb vn vt vk : Value), i ≤ 3 ∧ t = .int .i64 i ∧ Hid (r.nm = nm0 ++ it ∧ r.kind = 7 ∧ r.size = 0 ∧ r.bytes = [] ∧ r.names = [] ∧ r.little = false) ∧ Hid ((r.tags.length + i = 1 + y ∧ r.kids.length + i = 2 + y) ∧ TagInv r.tags ∧ (∀ x ∈ r.kids, 0 ≤ x ∧ x < (ds.length : Int)) ∧ ∃ t, r.kids = (x : Int) :: t) ∧ Hid (MS wb w wr p A l c g ⟨r, vb, vn, vt, vk⟩ (w.heap.size + 1))) (fun t _ => (intOf t).toNat)
 case atStart => exact ⟨1 + y, _, _, _, _, _, by omega, by simp, ⟨rfl, rfl, rfl, rfl, rfl, rfl⟩, ⟨⟨by simp, by simp; omega⟩, TagInv.nil, by simp; omega, ⟨[], rfl⟩⟩, S4⟩
 case round =>
  clear S4
  obtain ⟨i, r, vb, vn, vt, vk, hi3, rfl, hr, hl, hM⟩ := hrel
  by_cases hi0 : 0 < i
  ·obtain ⟨At, ct, hvt, _⟩ := OwnL.rd hM.out.M.own.t (by have := hl.out.1.1; show r.tags.length ≤ _; omega)
   dsimp only at hvt
   subst hvt
   have hMd := Lib.hid (hM.out.ext (Ext_drew (Ext.refl wr)))
   have cd0 : _ = some (Value.slice At r.tags.length ct) := hM.out.M.box.cell 6
   have HBn : Hid (∀ x : Int, (r.tags.length + [x].length) * 8 ≤ 140737488355328) := fun s => by have := hl.out.1.1; simp; omega
   have HLn : Hid (∀ x : Int, (r.tags ++ [x]).length ≤ 140737488351232) := fun s => by have := hl.out.1.1; simp; omega
   have htl := hl.out.1.1
   have hw1 : IntKind.i64.wrap (4 * (r.tags.length : Int)) = 4 * (r.tags.length : Int) := IntWalk.i64_in _ (by omega)
   have hw2 : Hid (∀ z : Nat, z < 4 → IntKind.i64.wrap (4 * (r.tags.length : Int) + (z : Int)) = 4 * (r.tags.length : Int) + (z : Int)) := fun z hz => IntWalk.i64_in _ (by omega)
   have hb4 : Hid (∀ z : Nat, below 4 z → z < 4) := fun z hz => by unfold below at hz; rw [if_neg (by omega)] at hz; omega
   clear htl
   go_wp2_with fail
   go_cut [120] from 110 to 121 (fun _ wx => ∃ s v, Hid (TagInv (r.tags ++ [s])) ∧ Hid (MS wb w wx p A l c g ⟨{ r with tags := r.tags ++ [s] }, vb, vn, v, vk⟩ (w.heap.size + 1)))
   case first =>
    go_region_law (first
     | (go_simp; go_at_call 30; refine (CBe.out 4 _ hMd.out.M.cur (by omega)).mono ?_; rintro _ w5 ⟨z, hz, rfl, hC5, hg5⟩; have M5 := Lib.hid (hMd.out.moved hC5 hg5); have c5 : _ = some (Value.slice At r.tags.length ct) := M5.out.M.box.cell 6; have M5' := Lib.hid (M5.out.ext (Ext_alloc (.cells #[.int .i64 (4 * (r.tags.length : Int) + (z : Int))] 3) (Ext.refl _))); have c5' : _ = some (Value.slice At r.tags.length ct) := M5'.out.M.box.cell 6; have hz4 := hb4.out _ hz; have hw3 := hw2.out z hz4; clear hC5 hg5 hz)
     | (refine step_appG rfl (.tmp 111) (.tmp 119) _ rfl E_int (by omega) wb _ vint (fun _ => rfl) (.slice At r.tags.length ct) rfl (some ⟨w5.heap.size, 0, none⟩) 1 1 rfl r.tags [4 * (r.tags.length : Int) + (z : Int)] M5'.out.M.own.t M5'.out.M.cur.2.1 rfl (fun _ => ⟨_, rfl, fun j u hu => (World.cell?_alloc_at' w5 [.int .i64 (4 * (r.tags.length : Int) + (z : Int))] 3 j).trans hu⟩) (HBn.out _) ?_; intro v7 w7 ho7 he7 hv7 hg7; obtain ⟨A7, c7, hsh, _⟩ := OwnL.rd ho7 (HLn.out _); replace hsh : v7 = .slice A7 (r.tags.length + 1) c7 := (by rw [hsh, List.length_append]; rfl); subst hsh; obtain ⟨⟨z7, y7⟩, M7⟩ := M5'.out.app_t ho7 he7 hv7 hg7; clear ho7 he7 hv7 hg7; have M7 := Lib.hid M7))
    all_goals
     go_wp2_with fail
     go_meet
     exact ⟨4 * (r.tags.length : Int) + (z : Int), _, hl.out.2.1.snoc hz4, M7⟩
   case rest =>
    obtain ⟨s, v, hs, hM'⟩ := hcut
    clear hM hMd cd0 HBn HLn hw1 hw2 hb4
    have hMd := Lib.hid (hM'.out.ext (Ext_drew (Ext.refl wc)))
    have cd0 : _ = some vk := hM'.out.M.box.cell 7
    have HBn : Hid (∀ x : Int, (r.kids.length + [x].length) * 8 ≤ 140737488355328) := fun s => by have := hl.out.1.2; simp; omega
    have HLn : Hid (∀ x : Int, (r.kids ++ [x]).length ≤ 140737488351232) := fun s => by have := hl.out.1.2; simp; omega
    go_wp2_with fail
    go_region_law (first
     | (go_simp; go_at_call 30; refine (CBe.out ds.length _ hMd.out.M.cur (by omega)).mono ?_; rintro _ w5 ⟨x2, hx2, rfl, hC5, hg5⟩; have M5 := Lib.hid (hMd.out.moved hC5 hg5); have c5 : _ = some vk := M5.out.M.box.cell 7; have M5' := Lib.hid (M5.out.ext (Ext_alloc (.cells #[.int .i64 x2] 3) (Ext.refl _))); have c5' : _ = some vk := M5'.out.M.box.cell 7; clear hC5 hg5)
     | (refine step_appG rfl (.tmp 123) (.tmp 127) _ rfl E_int (by omega) wb _ vint (fun _ => rfl) vk rfl (some ⟨w5.heap.size, 0, none⟩) 1 1 rfl r.kids [(x2 : Int)] M5'.out.M.own.k M5'.out.M.cur.2.1 rfl (fun _ => ⟨_, rfl, fun j u hu => (World.cell?_alloc_at' w5 [.int .i64 x2] 3 j).trans hu⟩) (HBn.out _) ?_; intro v7 w7 ho7 he7 hv7 hg7; obtain ⟨A7, c7, hsh, _⟩ := OwnL.rd ho7 (HLn.out _); replace hsh : v7 = .slice A7 (r.kids.length + 1) c7 := (by rw [hsh, List.length_append]; rfl); subst hsh; obtain ⟨⟨z7, y7⟩, M7⟩ := M5'.out.app_k ho7 he7 hv7 hg7; clear ho7 he7 hv7 hg7; have M7 := Lib.hid M7))
    all_goals
     have hxn : x2 < ds.length := by unfold below at hx2; rw [if_neg (by omega)] at hx2; omega
     clear hx2
     have HK' : Hid (∀ z ∈ r.kids ++ [(x2 : Int)], 0 ≤ z ∧ z < (ds.length : Int)) := fun t ht => by
      rcases List.mem_append.1 ht with h1 | h1
      ·exact hl.out.2.2.1 t h1
      ·rw [List.mem_singleton.1 h1]; omega
     go_wp2
     go_roundw
     case rel => exact ⟨i - 1, { r with tags := r.tags ++ [s], kids := r.kids ++ [(x2 : Int)] }, vb, vn, v, _, by omega, by go_num, hr, ⟨⟨by have := hl.out.1.1; simp; omega, by have := hl.out.1.2; simp; omega⟩, hs.out, HK'.out, by obtain ⟨t, ht⟩ := hl.out.2.2.2; exact ⟨t ++ [(x2 : Int)], by show r.kids ++ _ = _; rw [ht]; rfl⟩⟩, M7⟩
     case measure => simp [intOf]; omega
  ·obtain rfl : i = 0 := by omega
   have hM0 := hM.out.M.own
   obtain ⟨Ab, cb, hvb, _⟩ := OwnL.rd hM0.b (by show r.bytes.length ≤ _; rw [hr.out.2.2.2.1]; simp)
   obtain ⟨An, cn, hvn, _⟩ := OwnL.rd hM0.n (by show r.names.length ≤ _; rw [hr.out.2.2.2.2.1]; simp)
   obtain ⟨At, ct, hvt, _⟩ := OwnL.rd hM0.t (by have := hl.out.1.1; show r.tags.length ≤ _; omega)
   obtain ⟨Ak, ck, hvk, _⟩ := OwnL.rd hM0.k (by have := hl.out.1.2; show r.kids.length ≤ _; omega)
   dsimp only at hvb hvn hvt hvk
   subst hvb; subst hvn; subst hvt; subst hvk
   clear hM0
   have M6 := Lib.hid hM.out.M
   have HR6 := Lib.hid hM.out.res
   obtain ⟨⟨a0, a1, a2, a3⟩, a4, a5, a6, a7⟩ := cells8 M6.out.box
   obtain ⟨⟨b0, b1, b2, b3⟩, b4, b5, b6, b7⟩ := cells8 (q := ⟨⟨⟨#[]⟩, 0, 0, false, [], [], [], []⟩, .slice none 0 0, .slice none 0 0, .slice none 0 0, .slice none 0 0⟩) HR6.out
   obtain ⟨⟨d0, d1, d2, d3⟩, d4, d5, d6, d7⟩ := frees8 HR6.out
   dsimp only at a0 a1 a2 a3 a4 a5 a6 a7 b0 b1 b2 b3 b4 b5 b6 b7
   have hgs' := hM.out.M.grow.size
   have HOUT := Lib.hid (M6.out.out HR6.out (by omega) (by omega) (by omega) hM.out.nR)
   dsimp only at HOUT
   have hnew := fun u hu b hb => (M6.out.new u hu b hb).1
   have hfar := M6.out.far
   clear hM
   go_wp2_with fail
   obtain ⟨hB, hO, hCc, hG⟩ := HOUT.out
   obtain ⟨⟨e0, e1, e2, e3⟩, e4, e5, e6, e7⟩ := cells8 (q := ⟨r, .slice Ab r.bytes.length cb, .slice An r.names.length cn, .slice At r.tags.length ct, .slice Ak r.kids.length ck⟩) hB
   dsimp only at e0 e1 e2 e3 e4 e5 e6 e7
   refine bodyPost_ret (v := vrule r (.slice Ab r.bytes.length cb) (.slice An r.names.length cn) (.slice At r.tags.length ct) (.slice Ak r.kids.length ck)) (by simp [results, Tryz.results21, go_sem, e0, e1, e2, e3, e4, e5, e6, e7, vrule]) rfl ?_
   exact ⟨⟨r, .slice Ab r.bytes.length cb, .slice An r.names.length cn, .slice At r.tags.length ct, .slice Ak r.kids.length ck⟩, rfl, ⟨by rw [hr.out.1]; omega, ⟨by rw [hr.out.2.2.2.1]; simp, by rw [hr.out.2.2.2.2.1]; simp, by have := hl.out.1.1; show r.tags.length ≤ _; omega, by have := hl.out.1.2; show r.kids.length ≤ _; omega⟩, by rw [hr.out.2.2.2.2.1]; simp, ⟨by rw [hr.out.2.2.1]; omega, fun x hx => by obtain ⟨j, hj, rfl⟩ := List.getElem_of_mem hx; have h1 := hl.out.2.1.at' j hj; have h2 := hl.out.1.1; dsimp only at hj ⊢; omega, fun x hx => by have := hl.out.2.2.1 x hx; omega⟩⟩, hr.out.2.1, made_cho (r := r) hMD.out (by obtain ⟨s, hs, he⟩ := HNM.out; exact ⟨s, hs, by rw [hr.out.1]; exact he⟩) hr.out.2.1 hr.out.2.2.1 hr.out.2.2.2.1 hr.out.2.2.2.2.1 hr.out.2.2.2.2.2 (by have := hl.out.1; omega) (by have := hl.out.1; omega) (by have := hl.out.1; omega) hl.out.2.1 hx HXK.out hl.out.2.2.2.choose_spec hl.out.2.2.1, hO, hfar, hnew, hCc, hG⟩
structure Wrote (lo hi : Nat) (w w' : World) : Prop where
 os : w'.os = w.os
 tape : w'.tape = w.tape
 output : w'.output = w.output
 size : w.heap.size ≤ w'.heap.size
 block : ∀ k, k < w.heap.size → (k < lo ∨ hi ≤ k) → w'.heap[k]? = w.heap[k]?
theorem Wrote.refl (lo hi : Nat) (w : World) : Wrote lo hi w w := ⟨rfl, rfl, rfl, Nat.le_refl _, fun _ _ _ => rfl⟩
theorem Wrote.trans {lo hi : Nat} {a b c : World} (h : Wrote lo hi a b) (k : Wrote lo hi b c) : Wrote lo hi a c :=
 ⟨k.os.trans h.os, k.tape.trans h.tape, k.output.trans h.output, Nat.le_trans h.size k.size, fun i hi hb => (k.block i (Nat.lt_of_lt_of_le hi h.size) hb).trans (h.block i hi hb)⟩
theorem Wrote.mono {lo hi lo' hi' : Nat} {a b : World} (h : Wrote lo hi a b) (h1 : lo' ≤ lo) (h2 : hi ≤ hi') : Wrote lo' hi' a b :=
 ⟨h.os, h.tape, h.output, h.size, fun i hi hb => h.block i hi (by omega)⟩
theorem Wrote.ext {lo hi : Nat} {w w' : World} (e : Ext w w') : Wrote lo hi w w' := ⟨e.os, e.tape, e.output, e.size, fun i hi _ => Below.block e i hi⟩
theorem Wrote.grown {lo hi : Nat} {w w' : World} {row : Option Nat} (h : w.grownBy w' row) (hr : ∀ g, row = some g → lo ≤ g ∧ g < hi) : Wrote lo hi w w' :=
 ⟨h.os, h.tape, h.output, h.size, fun i hi hb => h.block i hi (fun e => by have := hr i e.symm; omega)⟩
theorem Wrote.set {lo hi : Nat} (w : World) (a : Addr) (u : Value) (h1 : lo ≤ a.block) (h2 : a.block < hi) : Wrote lo hi w (w.setCell a u) :=
 Wrote.grown (grown_set w a u) (fun g hg => by injection hg with hg; subst hg; exact ⟨h1, h2⟩)
theorem Wrote.below {lo hi : Nat} {w0 w w' : World} (h : Wrote lo hi w w') (e : Ext w0 w) (hlo : w0.heap.size ≤ lo) : Ext w0 w' :=
 Below.trans e ⟨h.os, h.tape, h.output, h.size, fun k hk => h.block k (Nat.lt_of_lt_of_le hk e.size) (.inl (Nat.lt_of_lt_of_le hk hlo))⟩
theorem Own.wrote {e : TypeId} {size : Nat} {w0 w w' : World} {v : Value} {n : Nat} {xs : List Value} (h : Own e size w0 w v n xs) {lo hi : Nat} (hw : Wrote lo hi w w') (hv : ∀ g, v.ownBlock = some g → g < lo ∨ hi ≤ g) : Own e size w0 w' v n xs := by
 refine ⟨h.1, ?_⟩
 rcases h.2 with h0 | ⟨g, cap, cur, rfl, hb, hg, r⟩
 ·exact .inl h0
 ·exact .inr ⟨g, cap, cur, rfl, hb, (hw.block g (Array.getElem?_eq_some_iff.1 hg).1 (hv g rfl)).trans hg, r⟩
theorem OwnL.wrote {α : Type} {f : α → Value} {e : TypeId} {w0 w w' : World} {v : Value} {l : List α} (h : OwnL f e w0 w v l) {lo hi : Nat} (hw : Wrote lo hi w w') (hv : ∀ g, v.ownBlock = some g → g < lo ∨ hi ≤ g) : OwnL f e w0 w' v l := Own.wrote h hw hv
theorem OwnL.behind {α : Type} {f : α → Value} {e : TypeId} {w0 w w' : World} {v : Value} {l : List α} (h : OwnL f e w0 w v l) {lo hi : Nat} (hw : Wrote lo hi w w') (hb : hi ≤ w0.heap.size) : OwnL f e w0 w' v l :=
 h.wrote hw (fun g hg => .inr (Nat.le_trans hb (World.ownsRow.lt h g hg).1))
section
variable {P : Program} {ops : Array Oper} {o : Oper} {a : Act} {Q : Exit → Act → World → Prop} {K : Act → World → Prop} {E : Prop}
theorem step_app8 (hgd : o.guard = none) (s x : Operand) (t : TypeId) (ho : o.op = .call { callee := .builtin .append, args := #[s, x], argTypes := #[t, t] })
 {e : TypeId} {size bytes : Nat} {z : Value} (hE : Elem P t e size bytes z) (w0 w : World) (v : Value) (n : Nat) (xs : List Value) (hs : a.eval s = v) (hown : Own e size w0 w v n xs) (he : w0.heap.size ≤ w.heap.size)
 (ad : Addr) (m c : Nat) (news : List Value) (hx : a.eval x = .slice (some ad) m c) (hl : news.length = m * size) (hA : ∀ j u, news[j]? = some u → w.cell? (ad.add j) = some u) (h1 : ∀ u ∈ news, u.oneCell' = true)
 (hm : n + m ≤ maxLen) (hb : (n + m) * bytes ≤ 140737488355328)
 (h : ∀ v' w', Own e size w0 w' v' (n + m) (xs ++ news) → w.grownBy w' v.ownBlock → (v'.ownBlock = v.ownBlock ∨ v'.ownBlock = some w.heap.size) → K (a.put o.dst v') w') :
 if Region.wanted o (yielded ops a.tmps) = true then Oper.wp P o a w K Q else E := by
 have hw : Region.wanted o (yielded ops a.tmps) = true := by simp [Region.wanted, hgd]
 rw [if_pos hw]
 obtain ⟨i0, hi0, hz0, hz1, hz2⟩ := info_parts hE.hi
 obtain ⟨v', w', hr, h2, h3, h4, h5⟩ := run_append_own_at (P := P) w w0.heap.size t o.type e i0 z size bytes hE.ht hi0 hz0 hz1 hz2 hE.hz hE.hs v n xs hown ad m c news hl hA h1 hm hb he
 unfold Oper.wp execOp
 simp only [ho, resolve, invoke, builtin, Sem.run_bind, Sem.run_pure, Result.andThen_ok, List.map_toArray, List.map_cons, List.map_nil, hs, hx, hr]
 exact h v' w' h2 h3 h5
end
theorem vals_cells_one (p : RV) {w0 w : World} (h : RuleOwn w0 w p) (hs : ShortR p.r) : ∀ u ∈ p.cells, u.oneCell' = true := by
 obtain ⟨Ab, cb, An, cn, At, ct, Ak, ck, h1, h2, h3, h4, _⟩ := h.rd hs
 exact RV.cells_one p (by rw [h1]; rfl) (by rw [h2]; rfl) (by rw [h3]; rfl) (by rw [h4]; rfl)
theorem OwnD.snoc {W0 wr w2 w4 : World} {v v' : Value} {ps : List RV} {p : RV} (h : OwnD W0 wr v ps) (e2 : Ext wr w2) (hro : RuleOwn wr w2 p) (hfr : Far p.vals) (hb : W0.heap.size ≤ wr.heap.size) {cs : Array Value} {T : TypeId}
 (ho4 : Own 51 8 W0 w4 v' (ps.length + 1) (ps.flatMap RV.cells ++ p.cells)) (hg4 : (w2.alloc (.cells cs T)).grownBy w4 v.ownBlock) (hv : v'.ownBlock = v.ownBlock ∨ v'.ownBlock = some (w2.alloc (.cells cs T)).heap.size) : OwnD W0 w4 v' (ps ++ [p]) := by
 have ex := Ext_alloc (.cells cs T) (Ext.refl w2)
 have hsz : (w2.alloc (.cells cs T)).heap.size = w2.heap.size + 1 := by simp
 have hbl := h.block
 have hfar := h.far
 unfold Far at hfar
 rw [List.pairwise_cons] at hfar
 have hs2 := e2.size
 refine ⟨?_, fun q hq => ?_, ?_⟩
 ·rw [List.length_append, List.flatMap_append, List.flatMap_cons, List.flatMap_nil, List.append_nil]; exact ho4
 ·rcases List.mem_append.1 hq with hq | hq
  ·refine (((h.each q hq).ext e2).ext ex).keep hg4 (fun u hu g hg he => ?_)
   exact hfar.1 u (List.mem_flatMap.2 ⟨q, hq, hu⟩) g he hg
  ·obtain rfl := List.mem_singleton.1 hq
   refine ((hro.ext ex).keep hg4 (fun u hu g hg he => ?_)).down hb
   have h1 := (hro.block u hu g hg).1
   have h2 := (hbl v (List.mem_cons_self ..) g he).2
   omega
 ·rw [List.flatMap_append, List.flatMap_cons, List.flatMap_nil, List.append_nil]
  have hold : ∀ u ∈ ps.flatMap RV.vals, ∀ g, u.ownBlock = some g → g < wr.heap.size := fun u hu g hg => (hbl u (List.mem_cons_of_mem _ hu) g hg).2
  have hnew : ∀ u ∈ p.vals, ∀ g, u.ownBlock = some g → wr.heap.size ≤ g ∧ g < w2.heap.size := fun u hu g hg => hro.block u hu g hg
  refine Far.cons (Far.append hfar.2 hfr (fun u hu x hx g h1 h2 => by have := hold u hu g h1; have := (hnew x hx g h2).1; omega)) (fun x hx g h1 h2 => ?_)
  rcases hv with hv | hv
  ·rw [hv] at h1
   rcases List.mem_append.1 hx with hx | hx
   ·exact hfar.1 x hx g h1 h2
   ·have := (hbl v (List.mem_cons_self ..) g h1).2; have := (hnew x hx g h2).1; omega
  ·rw [hv, hsz] at h1
   injection h1 with h1
   rcases List.mem_append.1 hx with hx | hx
   ·have := hold x hx g h2; omega
   ·have := (hnew x hx g h2).2; omega
theorem size_drew (w : World) : w.drew.heap.size = w.heap.size := rfl
theorem sCopyD_c (A : Option Addr) (ds : List DRule) (c : Nat) (w : World) (h : RdD w A ds c) (hz : szD ds ≤ 1048576) :
 Calls Tryz.prog 46 #[vdesc (.slice A ds.length c)] w fun e w' => ∃ v ps, e = .returned (vdesc v) ∧ rulesOf ps = ds ∧ OwnD w w' v ps ∧ Ext w w' := by
 have hn : ds.length ≤ 1048576 := by unfold szD at hz; omega
 have HZ : Hid (∀ k (hk : k < ds.length), szRl ds[k] ≤ 1048576) := fun k hk => szD_mem hz (List.getElem_mem hk)
 obtain ⟨W0, HW0, HP, HR, HO, e0, hsA⟩ := boxes3' w #[.slice A ds.length c] #[.slice none 0 0] #[.slice none 0 0] 26 26 26
 have HSA := Lib.hid hsA; clear hsA
 have HP0 := Lib.hid HP; have HR0 := Lib.hid HR; have HO0 := Lib.hid HO; clear HP HR HO
 have OD0 : Hid (OwnD W0 W0 (.slice none 0 0) []) := ⟨⟨by simp, .inl ⟨rfl, rfl⟩⟩, fun p hp => by simp at hp, Far.one _⟩
 have HH := Lib.hid h; clear h
 unfold vdesc
 go_enter Tryz.func46, Tryz.ntmps46
 go_wp2
 rw [← HW0.out]
 go_loopw [4] (fun ix wr => ∃ (k : Nat) (ps : List RV) (v : Value), k ≤ ds.length ∧ ix = .int .i64 k ∧ ps.length ≤ k ∧ k ≤ ps.length ∧ Hid (rulesOf ps = ds.take k) ∧ Hid (OwnD W0 wr v ps) ∧ Hid (Box wr w.heap.size #[.slice A ds.length c] 26) ∧ Hid (Box wr (w.heap.size + 1) #[.slice none 0 0] 26) ∧ Hid (Box wr (w.heap.size + 1 + 1) #[v] 26) ∧ Ext w wr ∧ W0.heap.size ≤ wr.heap.size) (fun ix _ => ds.length - (intOf ix).toNat)
 case atStart => exact ⟨0, [], _, by omega, rfl, by simp, by simp, by simp [Hid, rulesOf], OD0, HP0, HR0, HO0, e0, Nat.le_refl _⟩
 case round =>
  clear OD0 HP0 HR0 HO0 e0 HW0
  obtain ⟨k, ps, v, hk, rfl, hl1, hl2, hps, hod, hbp, hbr, hbo, he, hsz⟩ := hrel
  have c0 : _ = some (Value.slice A ds.length c) := hbp.out.cell 0
  by_cases hlt : k < ds.length
  ·obtain ⟨b, off, Ab, cb, An, cn, At, ct, Ak, ck, hA, hb, hs, hr⟩ := HH.out.at k hlt
   subst hA
   have hzk := HZ.out k hlt
   have HT : Hid (ds.take (k+1) = ds.take k ++ [ds[k]]) := List.take_succ_eq_append_getElem hlt
   generalize ds[k] = r at *
   have C := Lib.hid (fun w h => sCopyR_c r Ab cb An cn At ct Ak ck w h hzk)
   obtain ⟨k0, k1, k2, k3, k4, k5, k6, k7⟩ := hr
   unfold vrule at C
   have cv : _ = some v := hbo.out.cell 0
   have hd := Ext_drew he
   have HS := Lib.hid hs; have hzk := Lib.hid hzk
   have hbod := Lib.hid (hbo.out.ext (Ext_drew (Ext.refl wr)))
   have hodd := Lib.hid (hod.out.ext (Ext_drew (Ext.refl wr)))
   clear hs
   have b1 : (0 : Int) ≤ (k : Int) := by omega
   have b2 : (k : Int) < (ds.length : Int) := by omega
   go_wp2_with fail
   go_region_law (first
    | (go_simp; go_at_call 65; refine (C.out _ (HS.out.ext hd)).mono ?_; rintro _ w2 ⟨vb, vn, vt, vk, rfl, hro, hfr, he2⟩; have hro := Lib.hid hro; have hfr := Lib.hid hfr; have hbo3 := Lib.hid ((hbod.out.ext he2).ext (Ext_alloc (.cells #[.string r.nm, .int .i64 r.kind, .int .i64 r.size, .bool r.little, vb, vn, vt, vk] 51) (Ext.refl w2))); have c2 : _ = some v := (hbod.out.ext he2).cell 0; have c3 : _ = some v := hbo3.out.cell 0; have hsz2 : Hid (W0.heap.size ≤ (w2.alloc (.cells #[.string r.nm, .int .i64 r.kind, .int .i64 r.size, .bool r.little, vb, vn, vt, vk] 51)).heap.size) := (by have h1 := he2.size; rw [size_drew] at h1; show _ ≤ _; rw [World.size_alloc]; omega); have hone := Lib.hid (vals_cells_one _ hro.out (szRl_short hzk.out).1); have hNv : Hid (v.ownBlock ≠ some (w.heap.size + 1 + 1)) := (fun hh => by have := (hod.out.block v (List.mem_cons_self ..) _ hh).1; have := HSA.out; omega))
    | (refine step_app8 rfl (.tmp 14) (.tmp 21) _ rfl E_rule W0 (w2.alloc (.cells #[.string r.nm, .int .i64 r.kind, .int .i64 r.size, .bool r.little, vb, vn, vt, vk] 51)) v ps.length (ps.flatMap RV.cells) rfl (Own.ext (Own.ext hodd.out.row he2) (Ext_alloc _ (Ext.refl _))) hsz2.out ⟨w2.heap.size, 0, none⟩ 1 1 (RV.cells ⟨r, vb, vn, vt, vk⟩) rfl rfl (fun j u hu => (World.cell?_alloc_at' w2 (RV.cells ⟨r, vb, vn, vt, vk⟩) 51 j).trans hu) hone.out (by simp [maxLen]; omega) (by omega) ?_; intro v4 w4 ho4 hg4 hv4; have hbo4 := Lib.hid (Box.moved (hbo3.out) hg4 hNv.out); have c4 := hbo4.out.cell 0; have f4 := hbo4.out.free 0; have HO4 := Lib.hid (OwnD.snoc hodd.out he2 hro.out hfr.out hsz ho4 hg4 hv4); have HG4 := Lib.hid hg4; clear ho4 hg4 hv4; obtain ⟨A4, q4, hA4⟩ := HO4.out.shape; replace hA4 : v4 = .slice A4 (ps.length + 1) q4 := (by rw [hA4, List.length_append]; rfl); subst hA4))
   all_goals
    have hW := HSA.out
    have x3 := Ext_alloc (.cells #[.string r.nm, .int .i64 r.kind, .int .i64 r.size, .bool r.little, vb, vn, vt, vk] 51) (Ext.refl w2)
    have bV : ∀ g, v.ownBlock = some g → w.heap.size + 3 ≤ g := fun g hg => by have := (hod.out.block v (List.mem_cons_self ..) g hg).1; omega
    have e4 := ((hd.trans he2).trans x3).grown HG4.out (fun g hg => by have := bV g hg; omega)
    have P5 : Hid (Box (w4.setCell ⟨w.heap.size + 1 + 1, 0, none⟩ (.slice A4 (ps.length + 1) q4)) w.heap.size #[.slice (some ⟨b, off, none⟩) ds.length c] 26) := (((hbp.out.ext ((Ext_drew (Ext.refl wr)).trans he2)).ext x3).moved HG4.out (fun hh => by have := bV _ hh; omega)).other (by omega) 0 _
    have R5 : Hid (Box (w4.setCell ⟨w.heap.size + 1 + 1, 0, none⟩ (.slice A4 (ps.length + 1) q4)) (w.heap.size + 1) #[.slice none 0 0] 26) := (((hbr.out.ext ((Ext_drew (Ext.refl wr)).trans he2)).ext x3).moved HG4.out (fun hh => by have := bV _ hh; omega)).other (by omega) 0 _
    have O5 : Hid (Box (w4.setCell ⟨w.heap.size + 1 + 1, 0, none⟩ (.slice A4 (ps.length + 1) q4)) (w.heap.size + 1 + 1) #[.slice A4 (ps.length + 1) q4] 26) := hbo4.out.set 0 (.slice A4 (ps.length + 1) q4)
    have D5 : Hid (OwnD W0 (w4.setCell ⟨w.heap.size + 1 + 1, 0, none⟩ (.slice A4 (ps.length + 1) q4)) (.slice A4 (ps.length + 1) q4) (ps ++ [⟨r, vb, vn, vt, vk⟩])) := HO4.out.keep (grown_set w4 ⟨w.heap.size + 1 + 1, 0, none⟩ _) (fun u hu g hg hh => by have h1 := (HO4.out.block u hu g hg).1; injection hh with hh; simp at hh; omega)
    have E5 : Hid (Ext w (w4.setCell ⟨w.heap.size + 1 + 1, 0, none⟩ (.slice A4 (ps.length + 1) q4))) := e4.setCell (p := ⟨w.heap.size + 1 + 1, 0, none⟩) (by show w.heap.size ≤ w.heap.size + 1 + 1; omega) _
    have S5 : Hid (W0.heap.size ≤ (w4.setCell ⟨w.heap.size + 1 + 1, 0, none⟩ (.slice A4 (ps.length + 1) q4)).heap.size) := by
     have h1 := HG4.out.size; have h2 := hsz2.out
     show _ ≤ _; simp only [World.size_setCell]; omega
    have N5 : Hid (rulesOf (ps ++ [⟨r, vb, vn, vt, vk⟩]) = ds.take (k + 1)) := by show _ = _; rw [rulesOf_append, hps.out, HT.out]; rfl
    clear hW x3 bV e4
    go_wp2
    go_roundw
    case rel => exact ⟨k + 1, ps ++ [⟨r, vb, vn, vt, vk⟩], _, by omega, by go_num, by simp; omega, by simp; omega, N5, D5, P5, R5, O5, E5.out, S5.out⟩
    case measure => simp [intOf]; omega
  ·obtain rfl : k = ds.length := by omega
   obtain ⟨A5, c5, hA5⟩ := hod.out.shape
   subst hA5
   have hN : rulesOf ps = ds := by rw [hps.out, List.take_length]
   have HN := Lib.hid hN
   have cv : _ = some (Value.slice A5 ps.length c5) := hbo.out.cell 0
   have cr : _ = some (Value.slice none 0 0) := hbr.out.cell 0
   have fr := hbr.out.free 0
   have G := grown_set wr ⟨w.heap.size + 1, 0, none⟩ (.slice A5 ps.length c5)
   have D5 : Hid (OwnD w (wr.setCell ⟨w.heap.size + 1, 0, none⟩ (.slice A5 ps.length c5)) (.slice A5 ps.length c5) ps) := (hod.out.keep G (fun u hu g hg hh => by have h1 := (hod.out.block u hu g hg).1; have := HSA.out; injection hh with hh; simp at hh; omega)).down (by have := HSA.out; omega)
   have E5 : Hid (Ext w (wr.setCell ⟨w.heap.size + 1, 0, none⟩ (.slice A5 ps.length c5))) := he.setCell (p := ⟨w.heap.size + 1, 0, none⟩) (by show w.heap.size ≤ w.heap.size + 1; omega) _
   have z5 : (wr.setCell ⟨w.heap.size + 1, 0, none⟩ (.slice A5 ps.length c5)).cell? ⟨w.heap.size + 1, 0, none⟩ = some (.slice A5 ps.length c5) := World.cell?_setCell_same _ _ _ cr
   clear hN G
   go_wp2
   exact bodyPost_ret (v := .agg #[.slice A5 ps.length c5]) (by simp [results, Tryz.results46, go_sem, z5]) rfl ⟨_, ps, rfl, HN.out, D5.out, E5.out⟩
theorem l4Make_c (Ad : Option Addr) (ds : List DRule) (cd : Nat) (kind : Int) (hkind : 1 ≤ kind ∧ kind ≤ 10) (hDn : ds.length ≤ 24) (hki : kind = 1 ∨ ∃ i, ∃ h : i < ds.length, ds[i].kind = 1) (hMD : MadeD ds)
 (wb w : World) (p : Nat) (A : Option Addr) (l : List UInt8) (c : Nat) (hA : Bs wb A l c) (hC : Cur wb w p A l c) (hD : ∀ w', w.grownBy w' (some p) → RdD w' Ad ds cd) :
 Calls Tryz.prog 21 #[.pointer (some ⟨p, 0, none⟩), vdesc (.slice Ad ds.length cd), .int .i64 kind] w fun e w' => ∃ q : RV, e = .returned (vrule q.r q.vb q.vn q.vt q.vk) ∧ SmallR q.r ∧ q.r.kind = kind ∧ MadeR ds q.r ∧ RuleOwn wb w' q ∧ Far q.vals ∧ (∀ u ∈ q.vals, ∀ b, u.ownBlock = some b → w.heap.size ≤ b) ∧ Cur wb w' p A l c ∧ w.grownBy w' (some p) := by
 by_cases h6 : kind = 6
 ·exact l4Make6_c Ad ds cd kind h6 (by omega) hki hMD wb w p A l c hA hC hD
 by_cases h7 : kind = 7
 ·exact l4Make7_c Ad ds cd kind h7 (by omega) hki hMD wb w p A l c hA hC hD
 exact l4Make1_c Ad ds cd kind ⟨hkind.1, hkind.2, h6, h7⟩ (by omega) hki hMD wb w p A l c hA hC hD
theorem OwnD.snoc2 {wb W w4 : World} {v v' : Value} {ps : List RV} {p : RV} (h : OwnD wb W v ps) (hro : RuleOwn wb W p) (hfr : Far p.vals) {n0 : Nat} (hold : ∀ u ∈ v :: ps.flatMap RV.vals, ∀ b, u.ownBlock = some b → b < n0) (hnew : ∀ u ∈ p.vals, ∀ b, u.ownBlock = some b → n0 ≤ b)
 (ho4 : Own 51 8 wb w4 v' (ps.length + 1) (ps.flatMap RV.cells ++ p.cells)) (hg4 : W.grownBy w4 v.ownBlock) (hv : v'.ownBlock = v.ownBlock ∨ v'.ownBlock = some W.heap.size) : OwnD wb w4 v' (ps ++ [p]) := by
 have hbl := h.block
 have hfar := h.far
 unfold Far at hfar
 rw [List.pairwise_cons] at hfar
 refine ⟨?_, fun q hq => ?_, ?_⟩
 ·rw [List.length_append, List.flatMap_append, List.flatMap_cons, List.flatMap_nil, List.append_nil]; exact ho4
 ·rcases List.mem_append.1 hq with hq | hq
  ·refine (h.each q hq).keep hg4 (fun u hu g hg he => ?_)
   exact hfar.1 u (List.mem_flatMap.2 ⟨q, hq, hu⟩) g he hg
  ·obtain rfl := List.mem_singleton.1 hq
   refine hro.keep hg4 (fun u hu g hg he => ?_)
   have h1 := hnew u hu g hg
   have h2 := hold v (List.mem_cons_self ..) g he
   omega
 ·rw [List.flatMap_append, List.flatMap_cons, List.flatMap_nil, List.append_nil]
  refine Far.cons (Far.append hfar.2 hfr (fun u hu x hx g h1 h2 => by have := hold u (List.mem_cons_of_mem _ hu) g h1; have := hnew x hx g h2; omega)) (fun x hx g h1 h2 => ?_)
  rcases hv with hv | hv
  ·rw [hv] at h1
   rcases List.mem_append.1 hx with hx | hx
   ·exact hfar.1 x hx g h1 h2
   ·have := hold v (List.mem_cons_self ..) g h1; have := hnew x hx g h2; omega
  ·rw [hv] at h1
   injection h1 with h1
   rcases List.mem_append.1 hx with hx | hx
   ·have := (hbl x (List.mem_cons_of_mem _ hx) g h2).2; omega
   ·have := (hro.block x hx g h2).2; omega
structure DS (wb w wr : World) (p : Nat) (A : Option Addr) (l : List UInt8) (c g : Nat) (v : Value) (ps : List RV) (R : Nat) : Prop where
 box : Box wr g #[v] 26
 own : OwnD wb wr v ps
 new : ∀ u ∈ v :: ps.flatMap RV.vals, ∀ b, u.ownBlock = some b → w.heap.size ≤ b ∧ b ≠ g ∧ b ≠ p ∧ b ≠ R
 cur : Cur wb wr p A l c
 grow : w.grownBy wr (some p)
 gw : w.heap.size ≤ g
 gb : wb.heap.size ≤ g
 gp : g ≠ p
 res : Box wr R #[.slice none 0 0] 26
 gR : g ≠ R
 pR : p ≠ R
theorem DS.moved {wb w wr w' : World} {p : Nat} {A : Option Addr} {l : List UInt8} {c g : Nat} {v : Value} {ps : List RV} {R : Nat} (h : DS wb w wr p A l c g v ps R) (hC : Cur wb w' p A l c) (hg : wr.grownBy w' (some p)) : DS wb w w' p A l c g v ps R :=
 ⟨h.box.moved hg (some_ne h.gp.symm), h.own.keep hg (fun u hu b hb hh => by injection hh with hh; exact (h.new u hu b hb).2.2.1 hh.symm), h.new, hC, h.grow.trans hg, h.gw, h.gb, h.gp, h.res.moved hg (some_ne h.pR), h.gR, h.pR⟩
theorem DS.ext {wb w wr w' : World} {p : Nat} {A : Option Addr} {l : List UInt8} {c g : Nat} {v : Value} {ps : List RV} {R : Nat} (h : DS wb w wr p A l c g v ps R) (e : Ext wr w') : DS wb w w' p A l c g v ps R :=
 h.moved (h.cur.ext e) (grown_ext e _)
def SmallD (ds : List DRule) : Prop := ds.length ≤ 24 ∧ ∀ r ∈ ds, SmallR r
theorem SmallR.short {r : DRule} (h : SmallR r) : ShortR r := by have := h.lens; unfold ShortR; omega
theorem DS.rd {wb w wr : World} {p : Nat} {A : Option Addr} {l : List UInt8} {c g : Nat} {v : Value} {ps : List RV} {R : Nat} (h : DS wb w wr p A l c g v ps R) (hs : SmallD (rulesOf ps)) : ∃ Ad cd, v = .slice Ad ps.length cd ∧ ∀ w', wr.grownBy w' (some p) → RdD w' Ad (rulesOf ps) cd := by
 obtain ⟨Ad, cd, hv⟩ := h.own.shape
 refine ⟨Ad, cd, hv, fun w' hg => ?_⟩
 have h1 : OwnD wb w' v ps := h.own.keep hg (fun u hu b hb hh => by injection hh with hh; exact (h.new u hu b hb).2.2.1 hh.symm)
 obtain ⟨A2, c2, hv2, hR⟩ := h1.rd (by have := hs.1; simp [rulesOf] at this; omega) (fun q hq => (hs.2 q.r (List.mem_map_of_mem hq)).short)
 rw [hv] at hv2
 injection hv2 with q1 _ q2
 subst q1; subst q2
 exact hR
theorem DS.snoc {wb w W w4 : World} {p : Nat} {A : Option Addr} {l : List UInt8} {c g : Nat} {v v' : Value} {ps : List RV} {R : Nat} {q : RV} (h : DS wb w W p A l c g v ps R) (hro : RuleOwn wb W q) (hfr : Far q.vals) {n0 : Nat} (hold : ∀ u ∈ v :: ps.flatMap RV.vals, ∀ b, u.ownBlock = some b → b < n0) (hnew : ∀ u ∈ q.vals, ∀ b, u.ownBlock = some b → n0 ≤ b) (hng : w.heap.size ≤ n0 ∧ g < n0 ∧ p < n0 ∧ R < n0)
 (ho4 : Own 51 8 wb w4 v' (ps.length + 1) (ps.flatMap RV.cells ++ q.cells)) (he : Ext wb w4) (hg4 : W.grownBy w4 v.ownBlock) (hv : v'.ownBlock = v.ownBlock ∨ v'.ownBlock = some W.heap.size) :
 (w4.cell? ⟨g, 0, none⟩ = some v ∧ w4.frozen? ⟨g, 0, none⟩ = false) ∧ DS wb w (w4.setCell ⟨g, 0, none⟩ v') p A l c g v' (ps ++ [q]) R := by
 have hB : Box w4 g #[v] 26 := Box.moved h.box hg4 (fun hh => (h.new v (List.mem_cons_self ..) g hh).2.1 rfl)
 have hR : Box w4 R #[.slice none 0 0] 26 := Box.moved h.res hg4 (fun hh => (h.new v (List.mem_cons_self ..) R hh).2.2.2 rfl)
 have hO := h.own.snoc2 hro hfr hold hnew ho4 hg4 hv
 have hn : ∀ u ∈ v' :: (ps ++ [q]).flatMap RV.vals, ∀ b, u.ownBlock = some b → w.heap.size ≤ b ∧ b ≠ g ∧ b ≠ p ∧ b ≠ R := by
  intro u hu b hb
  rw [List.flatMap_append, List.flatMap_cons, List.flatMap_nil, List.append_nil] at hu
  rcases List.mem_cons.1 hu with rfl | hu
  ·rcases hv with hv | hv
   ·exact h.new v (List.mem_cons_self ..) b (hv.symm.trans hb)
   ·rw [hv] at hb; injection hb with hb
    have h1 := h.box.lt; have h2 := h.res.lt; have h3 := h.cur.lt; have h4 := h.grow.size
    exact ⟨by omega, by omega, by omega, by omega⟩
  ·rcases List.mem_append.1 hu with hu | hu
   ·exact h.new u (List.mem_cons_of_mem _ hu) b hb
   ·have := hnew u hu b hb
    exact ⟨by omega, by omega, by omega, by omega⟩
 refine ⟨⟨hB.cell 0, hB.free 0⟩, hB.set 0 v', hO.keep (grown_set w4 ⟨g, 0, none⟩ v') (fun u hu b hb hh => by injection hh with hh; exact (hn u hu b hb).2.1 hh.symm), hn, ?_, ?_, h.gw, h.gb, h.gp, hR.other (fun hh => h.gR hh.symm) 0 v', h.gR, h.pR⟩
 ·exact (Cur.kept h.cur hg4 (fun hh => (h.new v (List.mem_cons_self ..) p hh).2.2.1 rfl) he).set (a := ⟨g, 0, none⟩) h.gp h.gb v'
 ·exact grown_new (a := ⟨g, 0, none⟩) (grown_own h.grow (fun b hh => (h.new v (List.mem_cons_self ..) b hh).1) hg4) h.gw v'
structure MadeV (wb w w' : World) (v : Value) (ps : List RV) : Prop where
 made : MadeD (rulesOf ps)
 small : SmallD (rulesOf ps)
 first : ∃ h : 0 < (rulesOf ps).length, (rulesOf ps)[0].kind = 1
 own : OwnD wb w' v ps
 new : ∀ u ∈ v :: ps.flatMap RV.vals, ∀ b, u.ownBlock = some b → w.heap.size ≤ b
theorem l4Description_c (wb w : World) (p : Nat) (A : Option Addr) (l : List UInt8) (c : Nat) (hA : Bs wb A l c) (hC : Cur wb w p A l c) :
 Calls Tryz.prog 19 #[.pointer (some ⟨p, 0, none⟩)] w fun e w' => ∃ v ps, e = .returned (vdesc v) ∧ MadeV wb w w' v ps ∧ ps.length ≤ 6 ∧ Cur wb w' p A l c ∧ w.grownBy w' (some p) := by
 have hplt := hC.lt
 have hbw := hC.2.1.size
 have CBe := Lib.hid (fun n w h hn => l1Below_c n wb w p A l c hA h hn)
 have CM := Lib.hid (fun Ad ds cd kind hk h1 h2 h3 w h hD => l4Make_c Ad ds cd kind hk h1 h2 h3 wb w p A l c hA h hD)
 unfold vdesc vrule at CM
 obtain ⟨W0, hW0, HR, HB, e0, hsA⟩ := boxes2' w #[.slice none 0 0] #[.slice none 0 0] 26 26
 have S0 : Hid (DS wb w W0 p A l c (w.heap.size + 1) (.slice none 0 0) [] w.heap.size) :=
  ⟨HB, ⟨⟨by simp, .inl ⟨rfl, rfl⟩⟩, by simp, Far.one _⟩, by simp [Value.ownBlock], hC.ext e0, grown_ext e0 _, by omega, by omega, by omega, HR, by omega, by omega⟩
 have cd0 : _ = some (Value.slice none 0 0) := S0.out.box.cell 0
 have yd0 := S0.out.box.free 0
 clear HB HR hC
 have HSZ := Lib.hid hsA; clear hsA
 go_enter Tryz.func19, Tryz.ntmps19
 go_wp2_with fail
 rw [← hW0.out]
 have SX := Lib.hid (S0.out.ext (Ext_drew (Ext.refl W0)))
 have HRD : Hid (∀ w', (W0.drew).grownBy w' (some p) → RdD w' none [] 0) := fun w' _ => RdD.nil w'
 have HMX : Hid (([] : List RV).length + 1 ≤ maxLen ∧ (([] : List RV).length + 1) * 136 ≤ 140737488355328) := ⟨by simp [maxLen], by simp⟩
 have HOLD : Hid (∀ u ∈ (Value.slice none 0 0) :: ([] : List RV).flatMap RV.vals, ∀ b, u.ownBlock = some b → b < (W0.drew).heap.size) := by
  intro u hu b hb
  have := (SX.out.own.block u hu b hb).2; omega
 have HNG : Hid (w.heap.size ≤ (W0.drew).heap.size ∧ w.heap.size + 1 < (W0.drew).heap.size ∧ p < (W0.drew).heap.size ∧ w.heap.size < (W0.drew).heap.size) := by
  have h1 := SX.out.grow.size; have h2 := SX.out.box.lt; have h3 := SX.out.cur.lt; have h4 := SX.out.res.lt
  exact ⟨by omega, by omega, by omega, by omega⟩
 have HMN := Lib.hid MadeD.nil
 go_cut [12] from 6 to 13 (fun _ wx => ∃ q v, SmallR q.r ∧ Hid (MadeR [] q.r) ∧ Hid (q.r.kind = 1) ∧ Hid (DS wb w wx p A l c (w.heap.size + 1) v [q] w.heap.size))
 case first =>
  go_region_law (first
   | (go_simp; go_at_call 21; refine (CM.out none [] 0 1 (by omega) (by simp) (.inl rfl) HMN.out _ SX.out.cur HRD.out).mono ?_; rintro _ w5 ⟨q, rfl, hsm, hkq, hmr, hro, hfr, hnb, hC5, hg5⟩; have S5 := Lib.hid (DS.moved (Hid.out SX) hC5 hg5); have c5 : _ = some (Value.slice none 0 0) := S5.out.box.cell 0; have S5' := Lib.hid (S5.out.ext (Ext_alloc (.cells #[.string q.r.nm, .int .i64 q.r.kind, .int .i64 q.r.size, .bool q.r.little, q.vb, q.vn, q.vt, q.vk] 51) (Ext.refl _))); have c5' : _ = some (Value.slice none 0 0) := S5'.out.box.cell 0; have hone := Lib.hid (vals_cells_one q hro hsm.short); have HRO := Lib.hid (hro.ext (Ext_alloc (.cells #[.string q.r.nm, .int .i64 q.r.kind, .int .i64 q.r.size, .bool q.r.little, q.vb, q.vn, q.vt, q.vk] 51) (Ext.refl _))); have HSM := Lib.hid hsm; have HMR := Lib.hid hmr; have HKQ := Lib.hid hkq; have HFR := Lib.hid hfr; have HNB := Lib.hid hnb; clear hC5 hg5 hsm hmr hkq hro hfr hnb)
   | (refine step_app8 rfl (.tmp 7) (.tmp 11) _ rfl E_rule wb (w5.alloc (.cells #[.string q.r.nm, .int .i64 q.r.kind, .int .i64 q.r.size, .bool q.r.little, q.vb, q.vn, q.vt, q.vk] 51)) (Value.slice none 0 0) (([] : List RV)).length ((([] : List RV)).flatMap RV.cells) rfl S5'.out.own.row S5'.out.cur.2.1.size ⟨w5.heap.size, 0, none⟩ 1 1 (RV.cells q) rfl rfl (fun j u hu => (World.cell?_alloc_at' w5 (RV.cells q) 51 j).trans hu) hone.out HMX.out.1 HMX.out.2 ?_; intro v7 w7 ho7 hg7 hv7; obtain ⟨⟨z7, y7⟩, M7⟩ := DS.snoc S5'.out HRO.out HFR.out HOLD.out HNB.out HNG.out ho7 (S5'.out.cur.2.1.grown hg7 (fun k hk => (World.ownsRow.lt S5'.out.own.row k hk).1)) hg7 hv7; obtain ⟨A7, c7, hsh⟩ := M7.own.shape; replace hsh : v7 = .slice A7 ((([] : List RV)).length + 1) c7 := (by rw [hsh, List.length_append]; rfl); subst hsh; clear ho7 hg7 hv7; have M7 := Lib.hid M7))
  all_goals
   go_wp2_with fail
   go_meet
   exact ⟨q, _, HSM.out, HMR.out, HKQ.out, M7⟩
 case rest =>
  obtain ⟨q, v, hsq, hmq, hkq, hS⟩ := hcut
  clear S0 SX HRD HMX HOLD HNG cd0 yd0 HMN
  go_wp2_with fail
  refine (CBe.out 6 _ hS.out.cur (by omega)).mono ?_; rintro _ w2 ⟨y, hy, rfl, hC2, hg2⟩
  have hyn : y < 6 := by unfold below at hy; rw [if_neg (by omega)] at hy; omega
  have S2 := Lib.hid (hS.out.moved hC2 hg2)
  clear hy hC2 hg2 hS
  have HM1 : Hid (MadeD (rulesOf [q])) := by show MadeD _; have := MadeD.nil.snoc hmq.out; simpa [rulesOf] using this
  go_wp2
  go_loopw [4] (fun t wr => ∃ (i : Nat) (v : Value) (ps : List RV), i < 6 ∧ t = .int .i64 i ∧ Hid (ps.length + i ≤ 6 ∧ MadeD (rulesOf ps) ∧ (∀ q ∈ ps, SmallR q.r) ∧ ∃ h : 0 < (rulesOf ps).length, (rulesOf ps)[0].kind = 1) ∧ Hid (DS wb w wr p A l c (w.heap.size + 1) v ps w.heap.size)) (fun t _ => (intOf t).toNat)
  case atStart => exact ⟨y, v, [q], hyn, rfl, ⟨by simp; omega, HM1.out, fun r hr => by rw [List.mem_singleton.1 hr]; exact hsq, ⟨by simp [rulesOf], by simpa [rulesOf] using hkq.out⟩⟩, S2⟩
  case round =>
   clear S2 HM1 hmq hkq
   obtain ⟨i, v, ps, hi6, rfl, hl, hS⟩ := hrel
   have hSD : Hid (SmallD (rulesOf ps)) := ⟨by have := hl.out.1; simp [rulesOf]; omega, fun r hr => by obtain ⟨q, hq, rfl⟩ := List.mem_map.1 hr; exact hl.out.2.2.1 q hq⟩
   by_cases hi0 : 0 < i
   ·obtain ⟨Ad, cd, hv, _⟩ := hS.out.rd hSD.out
    subst hv
    have CP : Hid (∀ (k : Nat) (w' : World), k < 10 → DS wb w w' p A l c (w.heap.size + 1) (.slice Ad ps.length cd) ps w.heap.size → Calls Tryz.prog 21 #[.pointer (some ⟨p, 0, none⟩), .agg #[.slice Ad ps.length cd], .int .i64 (1 + (k : Int))] w' fun e w'' => ∃ q : RV, e = .returned (.agg #[.string q.r.nm, .int .i64 q.r.kind, .int .i64 q.r.size, .bool q.r.little, q.vb, q.vn, q.vt, q.vk]) ∧ SmallR q.r ∧ q.r.kind = 1 + (k : Int) ∧ MadeR (rulesOf ps) q.r ∧ RuleOwn wb w'' q ∧ Far q.vals ∧ (∀ u ∈ q.vals, ∀ b, u.ownBlock = some b → w'.heap.size ≤ b) ∧ Cur wb w'' p A l c ∧ w'.grownBy w'' (some p)) := fun k w' hk hS' => by
     obtain ⟨Ad', cd', hv', hrd⟩ := hS'.rd hSD.out
     injection hv' with q1 _ q2
     subst q1; subst q2
     have h1 := CM.out Ad (rulesOf ps) cd (1 + (k : Int)) (by omega) (by have := hl.out.1; simp [rulesOf]; omega) (.inr ⟨0, hl.out.2.2.2⟩) hl.out.2.1 w' hS'.cur hrd
     rw [show (rulesOf ps).length = ps.length by simp [rulesOf]] at h1
     exact h1
    have cd0 : _ = some (Value.slice Ad ps.length cd) := hS.out.box.cell 0
    have SX := Lib.hid (hS.out.ext (Ext_drew (Ext.refl wr)))
    have HMX : Hid (ps.length + 1 ≤ maxLen ∧ (ps.length + 1) * 136 ≤ 140737488355328) := by have := hl.out.1; exact ⟨by simp only [maxLen]; omega, by omega⟩
    have HW10 : Hid (∀ x : Nat, below 10 x → x < 10 ∧ IntKind.i64.wrap (1 + (x : Int)) = 1 + (x : Int)) := fun x hx => by
     have : x < 10 := by unfold below at hx; rw [if_neg (by omega)] at hx; omega
     exact ⟨this, IntWalk.i64_in _ (by omega)⟩
    have HPre : Hid (∀ w', DS wb w w' p A l c (w.heap.size + 1) (.slice Ad ps.length cd) ps w.heap.size → (∀ u ∈ (Value.slice Ad ps.length cd) :: ps.flatMap RV.vals, ∀ b, u.ownBlock = some b → b < w'.heap.size) ∧ (w.heap.size ≤ w'.heap.size ∧ w.heap.size + 1 < w'.heap.size ∧ p < w'.heap.size ∧ w.heap.size < w'.heap.size)) := fun w' h => by
     have h1 := h.grow.size; have h2 := h.box.lt; have h3 := h.cur.lt; have h4 := h.res.lt
     exact ⟨fun u hu b hb => (h.own.block u hu b hb).2, by omega, by omega, by omega, by omega⟩
    go_wp2_with fail
    go_region_law (first
     | (go_simp; go_at_call 30; refine (CBe.out 10 _ SX.out.cur (by omega)).mono ?_; rintro _ w4 ⟨x, hx, rfl, hC4, hg4⟩; have SY := Lib.hid (DS.moved SX.out hC4 hg4); have c4 : _ = some (Value.slice Ad ps.length cd) := SY.out.box.cell 0; have HX := Lib.hid (HW10.out x hx); have hw11 := HX.out.2; have HOLD := Lib.hid (HPre.out _ SY.out).1; have HNG := Lib.hid (HPre.out _ SY.out).2; clear hC4 hg4 hx)
     | (go_simp; go_at_call 21; refine (CP.out x _ HX.out.1 SY.out).mono ?_; rintro _ w5 ⟨q, rfl, hsm, hkq, hmr, hro, hfr, hnb, hC5, hg5⟩; have S5 := Lib.hid (DS.moved (Hid.out SY) hC5 hg5); have c5 : _ = some (Value.slice Ad ps.length cd) := S5.out.box.cell 0; have S5' := Lib.hid (S5.out.ext (Ext_alloc (.cells #[.string q.r.nm, .int .i64 q.r.kind, .int .i64 q.r.size, .bool q.r.little, q.vb, q.vn, q.vt, q.vk] 51) (Ext.refl _))); have c5' : _ = some (Value.slice Ad ps.length cd) := S5'.out.box.cell 0; have hone := Lib.hid (vals_cells_one q hro hsm.short); have HRO := Lib.hid (hro.ext (Ext_alloc (.cells #[.string q.r.nm, .int .i64 q.r.kind, .int .i64 q.r.size, .bool q.r.little, q.vb, q.vn, q.vt, q.vk] 51) (Ext.refl _))); have HSM := Lib.hid hsm; have HMR := Lib.hid hmr; have HKQ := Lib.hid hkq; have HFR := Lib.hid hfr; have HNB := Lib.hid hnb; clear hC5 hg5 hsm hmr hkq hro hfr hnb)
     | (refine step_app8 rfl (.tmp 21) (.tmp 28) _ rfl E_rule wb (w5.alloc (.cells #[.string q.r.nm, .int .i64 q.r.kind, .int .i64 q.r.size, .bool q.r.little, q.vb, q.vn, q.vt, q.vk] 51)) (Value.slice Ad ps.length cd) (ps).length ((ps).flatMap RV.cells) rfl S5'.out.own.row S5'.out.cur.2.1.size ⟨w5.heap.size, 0, none⟩ 1 1 (RV.cells q) rfl rfl (fun j u hu => (World.cell?_alloc_at' w5 (RV.cells q) 51 j).trans hu) hone.out HMX.out.1 HMX.out.2 ?_; intro v7 w7 ho7 hg7 hv7; obtain ⟨⟨z7, y7⟩, M7⟩ := DS.snoc S5'.out HRO.out HFR.out HOLD.out HNB.out HNG.out ho7 (S5'.out.cur.2.1.grown hg7 (fun k hk => (World.ownsRow.lt S5'.out.own.row k hk).1)) hg7 hv7; obtain ⟨A7, c7, hsh⟩ := M7.own.shape; replace hsh : v7 = .slice A7 ((ps).length + 1) c7 := (by rw [hsh, List.length_append]; rfl); subst hsh; clear ho7 hg7 hv7; have M7 := Lib.hid M7))
    all_goals
     have HL' : Hid ((ps ++ [q]).length + (i - 1) ≤ 6 ∧ MadeD (rulesOf (ps ++ [q])) ∧ (∀ u ∈ ps ++ [q], SmallR u.r) ∧ ∃ h : 0 < (rulesOf (ps ++ [q])).length, (rulesOf (ps ++ [q]))[0].kind = 1) := by
      obtain ⟨h1, h2, h3, h4, h5⟩ := hl.out
      have e : rulesOf (ps ++ [q]) = rulesOf ps ++ [q.r] := by simp [rulesOf]
      refine ⟨by simp; omega, by rw [e]; exact h2.snoc HMR.out, fun r hr => ?_, ?_⟩
      ·rcases List.mem_append.1 hr with h6 | h6
       ·exact h3 r h6
       ·rw [List.mem_singleton.1 h6]; exact HSM.out
      ·refine ⟨by rw [e]; simp, ?_⟩
       simp only [e]
       rw [List.getElem_append_left h4]; exact h5
     clear hS cd0 SX HMX HPre hSD hl CP HX hw11 HOLD HNG HFR HNB HRO hone SY c4 S5 c5 S5' c5' z7 y7
     go_wp2
     go_roundw
     case rel => exact ⟨i - 1, _, ps ++ [q], by omega, by go_num, HL', M7⟩
     case measure => simp [intOf]; omega
   ·obtain rfl : i = 0 := by omega
    obtain ⟨Ad, cd, hv, _⟩ := hS.out.rd hSD.out
    subst hv
    have cd0 : _ = some (Value.slice Ad ps.length cd) := hS.out.box.cell 0
    have cr0 : _ = some (Value.slice none 0 0) := hS.out.res.cell 0
    have yr0 := hS.out.res.free 0
    have OUT : Hid (OwnD wb (wr.setCell ⟨w.heap.size, 0, none⟩ (.slice Ad ps.length cd)) (.slice Ad ps.length cd) ps ∧ Cur wb (wr.setCell ⟨w.heap.size, 0, none⟩ (.slice Ad ps.length cd)) p A l c ∧ w.grownBy (wr.setCell ⟨w.heap.size, 0, none⟩ (.slice Ad ps.length cd)) (some p)) :=
     ⟨hS.out.own.keep (grown_set wr ⟨w.heap.size, 0, none⟩ _) (fun u hu b hb hh => by injection hh with hh; exact (hS.out.new u hu b hb).2.2.2 hh.symm), hS.out.cur.set (a := ⟨w.heap.size, 0, none⟩) (fun hh => hS.out.pR hh.symm) hbw _, grown_new (a := ⟨w.heap.size, 0, none⟩) hS.out.grow (Nat.le_refl _) _⟩
    have z5 : (wr.setCell ⟨w.heap.size, 0, none⟩ (.slice Ad ps.length cd)).cell? ⟨w.heap.size, 0, none⟩ = some (.slice Ad ps.length cd) := World.cell?_setCell_same _ _ _ cr0
    have HNW := Lib.hid (fun u hu b hb => (hS.out.new u hu b hb).1)
    clear hS
    go_wp2
    refine bodyPost_ret (v := vdesc (.slice Ad ps.length cd)) (by simp [results, Tryz.results19, go_sem, z5, vdesc]) rfl ⟨_, ps, rfl, ⟨hl.out.2.1, hSD.out, hl.out.2.2.2, OUT.out.1, HNW.out⟩, by have := hl.out.1; omega, OUT.out.2.1, OUT.out.2.2⟩
structure SmR (r : DRule) : Prop where
 nm : r.nm.size ≤ 60
 lens : r.bytes.length ≤ 16 ∧ r.names.length ≤ 16 ∧ r.tags.length ≤ 16 ∧ r.kids.length ≤ 16
 nms : ∀ t ∈ r.names, t.size ≤ 60
 kind : -100 ≤ r.kind ∧ r.kind ≤ 100
 ints : (-100000 ≤ r.size ∧ r.size ≤ 100000) ∧ (∀ x ∈ r.tags, -200000 ≤ x ∧ x ≤ 200000) ∧ ∀ x ∈ r.kids, -200000 ≤ x ∧ x ≤ 200000
theorem SmallR.sm {r : DRule} (h : SmallR r) (hk : -100 ≤ r.kind ∧ r.kind ≤ 100) : SmR r :=
 ⟨by have := h.nm; omega, by have := h.lens; omega, fun t ht => by have := h.nms t ht; omega, hk, ⟨h.ints.1, fun x hx => by have := h.ints.2.1 x hx; omega, fun x hx => by have := h.ints.2.2 x hx; omega⟩⟩
def SmD (ds : List DRule) : Prop := ds.length ≤ 24 ∧ ∀ r ∈ ds, SmR r
theorem SmR.short {r : DRule} (h : SmR r) : ShortR r := by have := h.lens; unfold ShortR; omega
theorem sum_le' {α : Type} (f : α → Nat) (m : Nat) : ∀ l : List α, (∀ x ∈ l, f x ≤ m) → (l.map f).sum ≤ l.length * m
 | [], _ => by simp
 | a :: t, h => by
  have h1 := h a (List.mem_cons_self ..)
  have h2 := sum_le' f m t (fun x hx => h x (List.mem_cons_of_mem _ hx))
  rw [List.map_cons, List.sum_cons, List.length_cons, Nat.add_mul]; omega
theorem SmallD.szD {ds : List DRule} (h : SmallD ds) : szD ds ≤ 1048576 := by
 have h0 : ∀ r ∈ ds, szRl r ≤ 1200 := fun r hr => by
  have h1 := (h.2 r hr).lens; have h2 := (h.2 r hr).nm
  have h3 := sum_le' ByteArray.size 40 r.names (h.2 r hr).nms
  have h4 : r.names.length * 40 ≤ 8 * 40 := Nat.mul_le_mul_right 40 h1.2.1
  unfold szRl szStrs; omega
 have h1 := sum_le' szRl 1200 ds h0
 have h2 : ds.length * 1200 ≤ 24 * 1200 := Nat.mul_le_mul_right 1200 h.1
 have h3 := h.1
 unfold Go.Proofs.YtpmcofmdjckijaaGreatDoor.szD; omega
theorem cells_put : ∀ (ps : List RV) (k j : Nat) (h : k < ps.length) (u : Value) (p' : RV), j < 8 → p'.cells = ps[k].cells.set j u → (ps.flatMap RV.cells).set (k * 8 + j) u = (ps.set k p').flatMap RV.cells := by
 intro ps
 induction ps with
 | nil => intro k j h; simp at h
 | cons p s ih =>
  intro k j h u p' hj hp
  cases k with
  | zero =>
   simp only [List.getElem_cons_zero] at hp
   rw [List.flatMap_cons, List.set_append_left _ _ (by simp [RV.cells]; omega), List.set_cons_zero, List.flatMap_cons, hp]
   simp
  | succ k =>
   have h' : k < s.length := by simpa using h
   simp only [List.getElem_cons_succ] at hp
   rw [List.flatMap_cons, List.set_append_right _ _ (by simp [RV.cells]; omega)]
   rw [show (k + 1) * 8 + j - p.cells.length = k * 8 + j by simp [RV.cells]; omega, ih k j h' u p' hj hp]
   simp [List.flatMap_cons]
theorem vals_put : ∀ (ps : List RV) (k j : Nat) (h : k < ps.length) (u : Value) (p' : RV), j < 4 → p'.vals = ps[k].vals.set j u → (ps.set k p').flatMap RV.vals = (ps.flatMap RV.vals).set (k * 4 + j) u := by
 intro ps
 induction ps with
 | nil => intro k j h; simp at h
 | cons p s ih =>
  intro k j h u p' hj hp
  cases k with
  | zero =>
   simp only [List.getElem_cons_zero] at hp
   rw [List.set_cons_zero, List.flatMap_cons, List.flatMap_cons, List.set_append_left _ _ (by simp [RV.vals]; omega), hp]
   simp
  | succ k =>
   have h' : k < s.length := by simpa using h
   simp only [List.getElem_cons_succ] at hp
   rw [List.set_cons_succ, List.flatMap_cons, List.flatMap_cons, List.set_append_right _ _ (by simp [RV.vals]; omega)]
   rw [show (k + 1) * 4 + j - p.vals.length = k * 4 + j by simp [RV.vals]; omega, ih k j h' u p' hj hp]
theorem vals_len (ps : List RV) : (ps.flatMap RV.vals).length = ps.length * 4 := by
 induction ps with
 | nil => rfl
 | cons p t ih => rw [List.flatMap_cons, List.length_append, ih, List.length_cons]; simp [RV.vals]; omega
theorem vals_get : ∀ (ps : List RV) (k j : Nat) (h : k < ps.length), j < 4 → (ps.flatMap RV.vals)[k * 4 + j]? = ps[k].vals[j]? := by
 intro ps
 induction ps with
 | nil => intro i j h; simp at h
 | cons p t ih =>
  intro i j h hj
  rw [List.flatMap_cons]
  cases i with
  | zero => rw [List.getElem?_append_left (by simp [RV.vals]; omega)]; simp
  | succ i =>
   rw [List.getElem?_append_right (by simp [RV.vals]; omega)]
   have : (i + 1) * 4 + j - p.vals.length = i * 4 + j := by simp [RV.vals]; omega
   rw [this, ih i j (by simpa using h) hj]
   simp
theorem far_set {l : List Value} (h : Far l) (i : Nat) (hi : i < l.length) (v' : Value) (N : Nat) (hN : ∀ u ∈ l, ∀ b, u.ownBlock = some b → b < N) (hv : v'.ownBlock = l[i].ownBlock ∨ v'.ownBlock = some N) : Far (l.set i v') := by
 unfold Far at *
 rw [List.pairwise_iff_getElem] at *
 intro a b ha hb hab g h1 h2
 rw [List.length_set] at ha hb
 rw [List.getElem_set] at h1 h2
 split at h1
 ·rename_i e1
  subst e1
  rw [if_neg (by omega)] at h2
  rcases hv with hv | hv
  ·exact h i b ha hb hab g (hv.symm.trans h1) h2
  ·rw [hv] at h1; injection h1 with h1
   have := hN _ (List.getElem_mem hb) g h2; omega
 ·split at h2
  ·rename_i e2
   subst e2
   rcases hv with hv | hv
   ·exact h a i ha hb hab g h1 (hv.symm.trans h2)
   ·rw [hv] at h2; injection h2 with h2
    have := hN _ (List.getElem_mem ha) g h1; omega
  ·exact h a b ha hb hab g h1 h2
theorem far_same {l l' : List Value} (h : Far l) (e : l' = l) : Far l' := e ▸ h
theorem mem_set_vals {l : List Value} {i : Nat} {v' u : Value} (h : u ∈ l.set i v') : u ∈ l ∨ u = v' := List.mem_or_eq_of_mem_set h
theorem DS.put {wb w wr : World} {p : Nat} {A : Option Addr} {l : List UInt8} {c g b n cap : Nat} {ps : List RV} {R : Nat} (h : DS wb w wr p A l c g (.slice (some ⟨b, 0, none⟩) n cap) ps R) (k j : Nat) (hk : k < ps.length) (hj : j < 4) (u : Value) (p' : RV) (hc : p'.cells = ps[k].cells.set j u) (hv : p'.vals = ps[k].vals)
 (hr : p'.r.bytes = ps[k].r.bytes ∧ p'.r.names = ps[k].r.names ∧ p'.r.tags = ps[k].r.tags ∧ p'.r.kids = ps[k].r.kids) :
 (wr.cell? ⟨b, k * 8 + j, none⟩ = ps[k].cells[j]? ∧ wr.frozen? ⟨b, k * 8 + j, none⟩ = false) ∧ DS wb w (wr.setCell ⟨b, k * 8 + j, none⟩ u) p A l c g (.slice (some ⟨b, 0, none⟩) n cap) (ps.set k p') R := by
 have hn : n = ps.length := by obtain ⟨_, _, hh⟩ := h.own.shape; injection hh
 subst hn
 have hbn := h.new _ (List.mem_cons_self ..) b rfl
 have hblk := h.own.block _ (List.mem_cons_self ..) b rfl
 have hfar := h.own.far
 unfold Far at hfar
 rw [List.pairwise_cons] at hfar
 have hsep : ∀ x ∈ ps.flatMap RV.vals, ∀ a, x.ownBlock = some a → some b ≠ some a := fun x hx a ha hh => by injection hh with hh; subst hh; exact hfar.1 x hx b rfl ha
 have hvs : (ps.set k p').flatMap RV.vals = ps.flatMap RV.vals := by
  have := vals_put ps k 0 hk p'.vb p' (by omega) (by rw [← hv]; simp [RV.vals])
  rw [this]
  refine List.ext_getElem? fun i => ?_
  rw [List.getElem?_set]
  split
  ·rename_i e
   subst e
   have h1 := vals_get ps k 0 hk (by omega)
   rw [h1, ← hv, if_pos (by rw [vals_len]; omega)]
   simp [RV.vals]
  ·rfl
 have hrow := (h.own.row.stored (k * 8 + j) u).1
 rw [cells_put ps k j hk u p' (by omega) hc] at hrow
 have hcell : wr.cell? ⟨b, k * 8 + j, none⟩ = ps[k].cells[j]? := by
  have h0 := h.own.row.cellAt (k * 8 + j) (by omega)
  rw [h0, cells_get ps k j hk (by omega)]
 refine ⟨⟨hcell, h.own.row.frozenAt _⟩, h.box.other hbn.2.1.symm _ u, ⟨by rw [List.length_set]; exact hrow, fun q hq => ?_, far_same h.own.far (by rw [hvs])⟩, by rw [hvs]; exact h.new, h.cur.set (a := ⟨b, k * 8 + j, none⟩) hbn.2.2.1 hblk.1 u, grown_new (a := ⟨b, k * 8 + j, none⟩) h.grow hbn.1 u, h.gw, h.gb, h.gp, h.res.other hbn.2.2.2.symm _ u, h.gR, h.pR⟩
 have hkeep : ∀ q ∈ ps, RuleOwn wb (wr.setCell ⟨b, k * 8 + j, none⟩ u) q := fun q hq => (h.own.each q hq).keep (grown_set wr ⟨b, k * 8 + j, none⟩ u) (fun x hx a ha => hsep x (List.mem_flatMap.2 ⟨q, hq, hx⟩) a ha)
 rcases List.mem_or_eq_of_mem_set hq with h1 | rfl
 ·exact hkeep q h1
 ·have h2 := hkeep ps[k] (List.getElem_mem hk)
  obtain ⟨r', vb', vn', vt', vk'⟩ := q
  simp only [RV.vals, List.cons.injEq, and_true] at hv
  dsimp only at hr
  obtain ⟨rfl, rfl, rfl, rfl⟩ := hv
  exact ⟨by show OwnL _ _ _ _ _ r'.bytes; rw [hr.1]; exact h2.b, by show OwnL _ _ _ _ _ r'.names; rw [hr.2.1]; exact h2.n, by show OwnL _ _ _ _ _ r'.tags; rw [hr.2.2.1]; exact h2.t, by show OwnL _ _ _ _ _ r'.kids; rw [hr.2.2.2]; exact h2.k⟩
theorem DS.app_b {wb w W w2 : World} {p : Nat} {A : Option Addr} {l : List UInt8} {c g b n cap : Nat} {ps : List RV} {R : Nat} (h : DS wb w W p A l c g (.slice (some ⟨b, 0, none⟩) n cap) ps R) (k : Nat) (hk : k < ps.length) {v' : Value} {xs : List UInt8} (ho : OwnL vu8 5 wb w2 v' xs) (he : Ext wb w2)
 (hb : v'.ownBlock = ps[k].vb.ownBlock ∨ v'.ownBlock = some W.heap.size) (hg : W.grownBy w2 ps[k].vb.ownBlock) :
 (w2.cell? ⟨b, k * 8 + 4, none⟩ = some ps[k].vb ∧ w2.frozen? ⟨b, k * 8 + 4, none⟩ = false ∧ w2.cell? ⟨g, 0, none⟩ = some (.slice (some ⟨b, 0, none⟩) n cap)) ∧ DS wb w (w2.setCell ⟨b, k * 8 + 4, none⟩ v') p A l c g (.slice (some ⟨b, 0, none⟩) n cap) (ps.set k ⟨{ ps[k].r with bytes := xs }, v', ps[k].vn, ps[k].vt, ps[k].vk⟩) R := by
 have hn : n = ps.length := by obtain ⟨_, _, hh⟩ := h.own.shape; injection hh
 subst hn
 have hbn := h.new _ (List.mem_cons_self ..) b rfl
 have hblk := h.own.block _ (List.mem_cons_self ..) b rfl
 have hold := h.own.block
 have hmem : ps[k].vb ∈ ps.flatMap RV.vals := List.mem_flatMap.2 ⟨ps[k], List.getElem_mem hk, by simp [RV.vals]⟩
 have hnk := h.new _ (List.mem_cons_of_mem _ hmem)
 have hfar := h.own.far
 have hfar0 := hfar
 unfold Far at hfar
 rw [List.pairwise_cons] at hfar
 have hvl := vals_len ps
 have hbX : ∀ a, ps[k].vb.ownBlock = some a → a ≠ b := fun a ha hh => by subst hh; exact hfar.1 _ hmem a rfl ha
 -- the other values lie elsewhere
 have hother : ∀ i, i < (ps.flatMap RV.vals).length → i ≠ k * 4 + 0 → ∀ u a, (ps.flatMap RV.vals)[i]? = some u → u.ownBlock = some a → ps[k].vb.ownBlock ≠ some a := by
  intro i hi hne u a hu ha hx
  have h4 := hfar.2
  rw [List.pairwise_iff_getElem] at h4
  have h5 := vals_get ps k 0 hk (by omega)
  have h6 : (ps.flatMap RV.vals)[k * 4 + 0]? = some ps[k].vb := by rw [h5]; simp [RV.vals]
  have hlt : k * 4 + 0 < (ps.flatMap RV.vals).length := by rw [hvl]; omega
  rw [List.getElem?_eq_getElem hi] at hu
  rw [List.getElem?_eq_getElem hlt] at h6
  injection hu with hu; injection h6 with h6
  rcases (by omega : i < k * 4 + 0 ∨ k * 4 + 0 < i) with h7 | h7
  ·exact h4 i _ hi hlt h7 a (by rw [hu]; exact ha) (by rw [h6]; exact hx)
  ·exact h4 _ i hlt hi h7 a (by rw [h6]; exact hx) (by rw [hu]; exact ha)
 have hset := vals_put ps k 0 hk v' ⟨{ ps[k].r with bytes := xs }, v', ps[k].vn, ps[k].vt, ps[k].vk⟩ (by omega) (by simp [RV.vals])
 have hrow2 := h.own.row.keep hg (fun a ha hh => by injection ha with ha; exact hbX a hh ha.symm)
 have hnv : ∀ a, v'.ownBlock = some a → (w.heap.size ≤ a ∧ a ≠ g ∧ a ≠ p ∧ a ≠ R) ∧ a ≠ b := by
  intro a ha
  rcases hb with hb | hb
  ·exact ⟨hnk a (hb.symm.trans ha), hbX a (hb.symm.trans ha)⟩
  ·rw [hb] at ha; injection ha with ha
   have h1 := h.box.lt; have h2 := h.res.lt; have h3 := h.cur.lt; have h4 := h.grow.size
   exact ⟨⟨by omega, by omega, by omega, by omega⟩, by omega⟩
 have hB2 : Box w2 g #[.slice (some ⟨b, 0, none⟩) ps.length cap] 26 := h.box.moved hg (fun hh => (hnk g hh).2.1 rfl)
 have hR2 : Box w2 R #[.slice none 0 0] 26 := h.res.moved hg (fun hh => (hnk R hh).2.2.2 rfl)
 have hC2 := Cur.kept h.cur hg (fun hh => (hnk p hh).2.2.1 rfl) he
 have hG2 := grown_own h.grow (fun a ha => (hnk a ha).1) hg
 have hrow := (hrow2.stored (k * 8 + 4) v').1
 rw [cells_put ps k 4 hk v' ⟨{ ps[k].r with bytes := xs }, v', ps[k].vn, ps[k].vt, ps[k].vk⟩ (by omega) (by simp [RV.cells])] at hrow
 have hcell : w2.cell? ⟨b, k * 8 + 4, none⟩ = some ps[k].vb := by
  have h0 := hrow2.cellAt (k * 8 + 4) (by omega)
  rw [h0, cells_get ps k 4 hk (by omega)]
  simp [RV.cells]
 refine ⟨⟨hcell, hrow2.frozenAt _, hB2.cell 0⟩, hB2.other hbn.2.1.symm _ v', ⟨by rw [List.length_set]; exact hrow, fun q hq => ?_, ?_⟩, ?_, hC2.set (a := ⟨b, k * 8 + 4, none⟩) hbn.2.2.1 hblk.1 v', grown_new (a := ⟨b, k * 8 + 4, none⟩) hG2 hbn.1 v', h.gw, h.gb, h.gp, hR2.other hbn.2.2.2.symm _ v', h.gR, h.pR⟩
 ·have hst : ∀ {α : Type} {f : α → Value} {e : TypeId} {u : Value} {xs : List α}, OwnL f e wb w2 u xs → (∀ a, u.ownBlock = some a → a ≠ b) → OwnL f e wb (w2.setCell ⟨b, k * 8 + 4, none⟩ v') u xs := fun hu hub => hu.keep (grown_set w2 ⟨b, k * 8 + 4, none⟩ v') (fun a ha hh => by injection hh with hh; exact hub a ha hh.symm)
  have hvb : ∀ u ∈ ps.flatMap RV.vals, ∀ a, u.ownBlock = some a → a ≠ b := fun u hu a ha hh => by subst hh; exact hfar.1 u hu a rfl ha
  have key : ∀ i (hi : i < ps.length) (j : Nat), j < 4 → (i ≠ k ∨ j ≠ 0) → ∀ {α : Type} {f : α → Value} {e : TypeId} {u : Value} {xs : List α}, ps[i].vals[j]? = some u → OwnL f e wb W u xs → OwnL f e wb (w2.setCell ⟨b, k * 8 + 4, none⟩ v') u xs := by
   intro i hi j hj hij α f e u xs hu hown
   have hget := vals_get ps i j hi hj
   rw [hu] at hget
   refine hst (hown.keep hg (fun a ha hh => ?_)) (hvb u (List.mem_of_getElem? hget))
   exact hother (i * 4 + j) (by rw [hvl]; omega) (by rcases hij with h1 | h1 <;> omega) u a hget ha hh
  rcases List.getElem_of_mem hq with ⟨i, hi, rfl⟩
  rw [List.length_set] at hi
  rw [List.getElem_set]
  split
  ·rename_i e1
   subst e1
   have h0 := h.own.each _ (List.getElem_mem hk)
   exact ⟨hst ho (fun a ha => (hnv a ha).2), key k hk 1 (by omega) (.inr (by omega)) (by simp [RV.vals]) h0.n, key k hk 2 (by omega) (.inr (by omega)) (by simp [RV.vals]) h0.t, key k hk 3 (by omega) (.inr (by omega)) (by simp [RV.vals]) h0.k⟩
  ·rename_i e1
   have h0 := h.own.each _ (List.getElem_mem hi)
   exact ⟨key i hi 0 (by omega) (.inl (fun hh => e1 hh.symm)) (by simp [RV.vals]) h0.b, key i hi 1 (by omega) (.inl (fun hh => e1 hh.symm)) (by simp [RV.vals]) h0.n, key i hi 2 (by omega) (.inl (fun hh => e1 hh.symm)) (by simp [RV.vals]) h0.t, key i hi 3 (by omega) (.inl (fun hh => e1 hh.symm)) (by simp [RV.vals]) h0.k⟩
 ·rw [hset]
  have h1 := far_set hfar0 (1 + (k * 4 + 0)) (by simp [hvl]; omega) v' W.heap.size (fun u hu a ha => (hold u hu a ha).2) (by
   have h5 := vals_get ps k 0 hk (by omega)
   have h6 : (Value.slice (some ⟨b, 0, none⟩) ps.length cap :: ps.flatMap RV.vals)[1 + (k * 4 + 0)]? = some ps[k].vb := by
    rw [Nat.add_comm 1, List.getElem?_cons_succ]
    have h7 : ps[k].vals[0]? = some ps[k].vb := by simp [RV.vals]
    exact h5.trans h7
   rw [List.getElem?_eq_getElem (by simp [hvl]; omega)] at h6
   injection h6 with h6
   rw [h6]; exact hb)
  rw [Nat.add_comm 1, List.set_cons_succ] at h1
  exact h1
 ·intro u hu a ha
  rw [hset] at hu
  rcases List.mem_cons.1 hu with rfl | hu
  ·exact h.new _ (List.mem_cons_self ..) a ha
  ·rcases mem_set_vals hu with h1 | rfl
   ·exact h.new u (List.mem_cons_of_mem _ h1) a ha
   ·exact (hnv a ha).1
theorem DS.app_n {wb w W w2 : World} {p : Nat} {A : Option Addr} {l : List UInt8} {c g b n cap : Nat} {ps : List RV} {R : Nat} (h : DS wb w W p A l c g (.slice (some ⟨b, 0, none⟩) n cap) ps R) (k : Nat) (hk : k < ps.length) {v' : Value} {xs : List ByteArray} (ho : OwnL vstr 9 wb w2 v' xs) (he : Ext wb w2)
 (hb : v'.ownBlock = ps[k].vn.ownBlock ∨ v'.ownBlock = some W.heap.size) (hg : W.grownBy w2 ps[k].vn.ownBlock) :
 (w2.cell? ⟨b, k * 8 + 5, none⟩ = some ps[k].vn ∧ w2.frozen? ⟨b, k * 8 + 5, none⟩ = false ∧ w2.cell? ⟨g, 0, none⟩ = some (.slice (some ⟨b, 0, none⟩) n cap)) ∧ DS wb w (w2.setCell ⟨b, k * 8 + 5, none⟩ v') p A l c g (.slice (some ⟨b, 0, none⟩) n cap) (ps.set k ⟨{ ps[k].r with names := xs }, ps[k].vb, v', ps[k].vt, ps[k].vk⟩) R := by
 have hn : n = ps.length := by obtain ⟨_, _, hh⟩ := h.own.shape; injection hh
 subst hn
 have hbn := h.new _ (List.mem_cons_self ..) b rfl
 have hblk := h.own.block _ (List.mem_cons_self ..) b rfl
 have hold := h.own.block
 have hmem : ps[k].vn ∈ ps.flatMap RV.vals := List.mem_flatMap.2 ⟨ps[k], List.getElem_mem hk, by simp [RV.vals]⟩
 have hnk := h.new _ (List.mem_cons_of_mem _ hmem)
 have hfar := h.own.far
 have hfar0 := hfar
 unfold Far at hfar
 rw [List.pairwise_cons] at hfar
 have hvl := vals_len ps
 have hbX : ∀ a, ps[k].vn.ownBlock = some a → a ≠ b := fun a ha hh => by subst hh; exact hfar.1 _ hmem a rfl ha
 -- the other values lie elsewhere
 have hother : ∀ i, i < (ps.flatMap RV.vals).length → i ≠ k * 4 + 1 → ∀ u a, (ps.flatMap RV.vals)[i]? = some u → u.ownBlock = some a → ps[k].vn.ownBlock ≠ some a := by
  intro i hi hne u a hu ha hx
  have h4 := hfar.2
  rw [List.pairwise_iff_getElem] at h4
  have h5 := vals_get ps k 1 hk (by omega)
  have h6 : (ps.flatMap RV.vals)[k * 4 + 1]? = some ps[k].vn := by rw [h5]; simp [RV.vals]
  have hlt : k * 4 + 1 < (ps.flatMap RV.vals).length := by rw [hvl]; omega
  rw [List.getElem?_eq_getElem hi] at hu
  rw [List.getElem?_eq_getElem hlt] at h6
  injection hu with hu; injection h6 with h6
  rcases (by omega : i < k * 4 + 1 ∨ k * 4 + 1 < i) with h7 | h7
  ·exact h4 i _ hi hlt h7 a (by rw [hu]; exact ha) (by rw [h6]; exact hx)
  ·exact h4 _ i hlt hi h7 a (by rw [h6]; exact hx) (by rw [hu]; exact ha)
 have hset := vals_put ps k 1 hk v' ⟨{ ps[k].r with names := xs }, ps[k].vb, v', ps[k].vt, ps[k].vk⟩ (by omega) (by simp [RV.vals])
 have hrow2 := h.own.row.keep hg (fun a ha hh => by injection ha with ha; exact hbX a hh ha.symm)
 have hnv : ∀ a, v'.ownBlock = some a → (w.heap.size ≤ a ∧ a ≠ g ∧ a ≠ p ∧ a ≠ R) ∧ a ≠ b := by
  intro a ha
  rcases hb with hb | hb
  ·exact ⟨hnk a (hb.symm.trans ha), hbX a (hb.symm.trans ha)⟩
  ·rw [hb] at ha; injection ha with ha
   have h1 := h.box.lt; have h2 := h.res.lt; have h3 := h.cur.lt; have h4 := h.grow.size
   exact ⟨⟨by omega, by omega, by omega, by omega⟩, by omega⟩
 have hB2 : Box w2 g #[.slice (some ⟨b, 0, none⟩) ps.length cap] 26 := h.box.moved hg (fun hh => (hnk g hh).2.1 rfl)
 have hR2 : Box w2 R #[.slice none 0 0] 26 := h.res.moved hg (fun hh => (hnk R hh).2.2.2 rfl)
 have hC2 := Cur.kept h.cur hg (fun hh => (hnk p hh).2.2.1 rfl) he
 have hG2 := grown_own h.grow (fun a ha => (hnk a ha).1) hg
 have hrow := (hrow2.stored (k * 8 + 5) v').1
 rw [cells_put ps k 5 hk v' ⟨{ ps[k].r with names := xs }, ps[k].vb, v', ps[k].vt, ps[k].vk⟩ (by omega) (by simp [RV.cells])] at hrow
 have hcell : w2.cell? ⟨b, k * 8 + 5, none⟩ = some ps[k].vn := by
  have h0 := hrow2.cellAt (k * 8 + 5) (by omega)
  rw [h0, cells_get ps k 5 hk (by omega)]
  simp [RV.cells]
 refine ⟨⟨hcell, hrow2.frozenAt _, hB2.cell 0⟩, hB2.other hbn.2.1.symm _ v', ⟨by rw [List.length_set]; exact hrow, fun q hq => ?_, ?_⟩, ?_, hC2.set (a := ⟨b, k * 8 + 5, none⟩) hbn.2.2.1 hblk.1 v', grown_new (a := ⟨b, k * 8 + 5, none⟩) hG2 hbn.1 v', h.gw, h.gb, h.gp, hR2.other hbn.2.2.2.symm _ v', h.gR, h.pR⟩
 ·have hst : ∀ {α : Type} {f : α → Value} {e : TypeId} {u : Value} {xs : List α}, OwnL f e wb w2 u xs → (∀ a, u.ownBlock = some a → a ≠ b) → OwnL f e wb (w2.setCell ⟨b, k * 8 + 5, none⟩ v') u xs := fun hu hub => hu.keep (grown_set w2 ⟨b, k * 8 + 5, none⟩ v') (fun a ha hh => by injection hh with hh; exact hub a ha hh.symm)
  have hvb : ∀ u ∈ ps.flatMap RV.vals, ∀ a, u.ownBlock = some a → a ≠ b := fun u hu a ha hh => by subst hh; exact hfar.1 u hu a rfl ha
  have key : ∀ i (hi : i < ps.length) (j : Nat), j < 4 → (i ≠ k ∨ j ≠ 1) → ∀ {α : Type} {f : α → Value} {e : TypeId} {u : Value} {xs : List α}, ps[i].vals[j]? = some u → OwnL f e wb W u xs → OwnL f e wb (w2.setCell ⟨b, k * 8 + 5, none⟩ v') u xs := by
   intro i hi j hj hij α f e u xs hu hown
   have hget := vals_get ps i j hi hj
   rw [hu] at hget
   refine hst (hown.keep hg (fun a ha hh => ?_)) (hvb u (List.mem_of_getElem? hget))
   exact hother (i * 4 + j) (by rw [hvl]; omega) (by rcases hij with h1 | h1 <;> omega) u a hget ha hh
  rcases List.getElem_of_mem hq with ⟨i, hi, rfl⟩
  rw [List.length_set] at hi
  rw [List.getElem_set]
  split
  ·rename_i e1
   subst e1
   have h0 := h.own.each _ (List.getElem_mem hk)
   exact ⟨key k hk 0 (by omega) (.inr (by omega)) (by simp [RV.vals]) h0.b, hst ho (fun a ha => (hnv a ha).2), key k hk 2 (by omega) (.inr (by omega)) (by simp [RV.vals]) h0.t, key k hk 3 (by omega) (.inr (by omega)) (by simp [RV.vals]) h0.k⟩
  ·rename_i e1
   have h0 := h.own.each _ (List.getElem_mem hi)
   exact ⟨key i hi 0 (by omega) (.inl (fun hh => e1 hh.symm)) (by simp [RV.vals]) h0.b, key i hi 1 (by omega) (.inl (fun hh => e1 hh.symm)) (by simp [RV.vals]) h0.n, key i hi 2 (by omega) (.inl (fun hh => e1 hh.symm)) (by simp [RV.vals]) h0.t, key i hi 3 (by omega) (.inl (fun hh => e1 hh.symm)) (by simp [RV.vals]) h0.k⟩
 ·rw [hset]
  have h1 := far_set hfar0 (1 + (k * 4 + 1)) (by simp [hvl]; omega) v' W.heap.size (fun u hu a ha => (hold u hu a ha).2) (by
   have h5 := vals_get ps k 1 hk (by omega)
   have h6 : (Value.slice (some ⟨b, 0, none⟩) ps.length cap :: ps.flatMap RV.vals)[1 + (k * 4 + 1)]? = some ps[k].vn := by
    rw [Nat.add_comm 1, List.getElem?_cons_succ]
    have h7 : ps[k].vals[1]? = some ps[k].vn := by simp [RV.vals]
    exact h5.trans h7
   rw [List.getElem?_eq_getElem (by simp [hvl]; omega)] at h6
   injection h6 with h6
   rw [h6]; exact hb)
  rw [Nat.add_comm 1, List.set_cons_succ] at h1
  exact h1
 ·intro u hu a ha
  rw [hset] at hu
  rcases List.mem_cons.1 hu with rfl | hu
  ·exact h.new _ (List.mem_cons_self ..) a ha
  ·rcases mem_set_vals hu with h1 | rfl
   ·exact h.new u (List.mem_cons_of_mem _ h1) a ha
   ·exact (hnv a ha).1
theorem DS.app_t {wb w W w2 : World} {p : Nat} {A : Option Addr} {l : List UInt8} {c g b n cap : Nat} {ps : List RV} {R : Nat} (h : DS wb w W p A l c g (.slice (some ⟨b, 0, none⟩) n cap) ps R) (k : Nat) (hk : k < ps.length) {v' : Value} {xs : List Int} (ho : OwnL vint 3 wb w2 v' xs) (he : Ext wb w2)
 (hb : v'.ownBlock = ps[k].vt.ownBlock ∨ v'.ownBlock = some W.heap.size) (hg : W.grownBy w2 ps[k].vt.ownBlock) :
 (w2.cell? ⟨b, k * 8 + 6, none⟩ = some ps[k].vt ∧ w2.frozen? ⟨b, k * 8 + 6, none⟩ = false ∧ w2.cell? ⟨g, 0, none⟩ = some (.slice (some ⟨b, 0, none⟩) n cap)) ∧ DS wb w (w2.setCell ⟨b, k * 8 + 6, none⟩ v') p A l c g (.slice (some ⟨b, 0, none⟩) n cap) (ps.set k ⟨{ ps[k].r with tags := xs }, ps[k].vb, ps[k].vn, v', ps[k].vk⟩) R := by
 have hn : n = ps.length := by obtain ⟨_, _, hh⟩ := h.own.shape; injection hh
 subst hn
 have hbn := h.new _ (List.mem_cons_self ..) b rfl
 have hblk := h.own.block _ (List.mem_cons_self ..) b rfl
 have hold := h.own.block
 have hmem : ps[k].vt ∈ ps.flatMap RV.vals := List.mem_flatMap.2 ⟨ps[k], List.getElem_mem hk, by simp [RV.vals]⟩
 have hnk := h.new _ (List.mem_cons_of_mem _ hmem)
 have hfar := h.own.far
 have hfar0 := hfar
 unfold Far at hfar
 rw [List.pairwise_cons] at hfar
 have hvl := vals_len ps
 have hbX : ∀ a, ps[k].vt.ownBlock = some a → a ≠ b := fun a ha hh => by subst hh; exact hfar.1 _ hmem a rfl ha
 -- the other values lie elsewhere
 have hother : ∀ i, i < (ps.flatMap RV.vals).length → i ≠ k * 4 + 2 → ∀ u a, (ps.flatMap RV.vals)[i]? = some u → u.ownBlock = some a → ps[k].vt.ownBlock ≠ some a := by
  intro i hi hne u a hu ha hx
  have h4 := hfar.2
  rw [List.pairwise_iff_getElem] at h4
  have h5 := vals_get ps k 2 hk (by omega)
  have h6 : (ps.flatMap RV.vals)[k * 4 + 2]? = some ps[k].vt := by rw [h5]; simp [RV.vals]
  have hlt : k * 4 + 2 < (ps.flatMap RV.vals).length := by rw [hvl]; omega
  rw [List.getElem?_eq_getElem hi] at hu
  rw [List.getElem?_eq_getElem hlt] at h6
  injection hu with hu; injection h6 with h6
  rcases (by omega : i < k * 4 + 2 ∨ k * 4 + 2 < i) with h7 | h7
  ·exact h4 i _ hi hlt h7 a (by rw [hu]; exact ha) (by rw [h6]; exact hx)
  ·exact h4 _ i hlt hi h7 a (by rw [h6]; exact hx) (by rw [hu]; exact ha)
 have hset := vals_put ps k 2 hk v' ⟨{ ps[k].r with tags := xs }, ps[k].vb, ps[k].vn, v', ps[k].vk⟩ (by omega) (by simp [RV.vals])
 have hrow2 := h.own.row.keep hg (fun a ha hh => by injection ha with ha; exact hbX a hh ha.symm)
 have hnv : ∀ a, v'.ownBlock = some a → (w.heap.size ≤ a ∧ a ≠ g ∧ a ≠ p ∧ a ≠ R) ∧ a ≠ b := by
  intro a ha
  rcases hb with hb | hb
  ·exact ⟨hnk a (hb.symm.trans ha), hbX a (hb.symm.trans ha)⟩
  ·rw [hb] at ha; injection ha with ha
   have h1 := h.box.lt; have h2 := h.res.lt; have h3 := h.cur.lt; have h4 := h.grow.size
   exact ⟨⟨by omega, by omega, by omega, by omega⟩, by omega⟩
 have hB2 : Box w2 g #[.slice (some ⟨b, 0, none⟩) ps.length cap] 26 := h.box.moved hg (fun hh => (hnk g hh).2.1 rfl)
 have hR2 : Box w2 R #[.slice none 0 0] 26 := h.res.moved hg (fun hh => (hnk R hh).2.2.2 rfl)
 have hC2 := Cur.kept h.cur hg (fun hh => (hnk p hh).2.2.1 rfl) he
 have hG2 := grown_own h.grow (fun a ha => (hnk a ha).1) hg
 have hrow := (hrow2.stored (k * 8 + 6) v').1
 rw [cells_put ps k 6 hk v' ⟨{ ps[k].r with tags := xs }, ps[k].vb, ps[k].vn, v', ps[k].vk⟩ (by omega) (by simp [RV.cells])] at hrow
 have hcell : w2.cell? ⟨b, k * 8 + 6, none⟩ = some ps[k].vt := by
  have h0 := hrow2.cellAt (k * 8 + 6) (by omega)
  rw [h0, cells_get ps k 6 hk (by omega)]
  simp [RV.cells]
 refine ⟨⟨hcell, hrow2.frozenAt _, hB2.cell 0⟩, hB2.other hbn.2.1.symm _ v', ⟨by rw [List.length_set]; exact hrow, fun q hq => ?_, ?_⟩, ?_, hC2.set (a := ⟨b, k * 8 + 6, none⟩) hbn.2.2.1 hblk.1 v', grown_new (a := ⟨b, k * 8 + 6, none⟩) hG2 hbn.1 v', h.gw, h.gb, h.gp, hR2.other hbn.2.2.2.symm _ v', h.gR, h.pR⟩
 ·have hst : ∀ {α : Type} {f : α → Value} {e : TypeId} {u : Value} {xs : List α}, OwnL f e wb w2 u xs → (∀ a, u.ownBlock = some a → a ≠ b) → OwnL f e wb (w2.setCell ⟨b, k * 8 + 6, none⟩ v') u xs := fun hu hub => hu.keep (grown_set w2 ⟨b, k * 8 + 6, none⟩ v') (fun a ha hh => by injection hh with hh; exact hub a ha hh.symm)
  have hvb : ∀ u ∈ ps.flatMap RV.vals, ∀ a, u.ownBlock = some a → a ≠ b := fun u hu a ha hh => by subst hh; exact hfar.1 u hu a rfl ha
  have key : ∀ i (hi : i < ps.length) (j : Nat), j < 4 → (i ≠ k ∨ j ≠ 2) → ∀ {α : Type} {f : α → Value} {e : TypeId} {u : Value} {xs : List α}, ps[i].vals[j]? = some u → OwnL f e wb W u xs → OwnL f e wb (w2.setCell ⟨b, k * 8 + 6, none⟩ v') u xs := by
   intro i hi j hj hij α f e u xs hu hown
   have hget := vals_get ps i j hi hj
   rw [hu] at hget
   refine hst (hown.keep hg (fun a ha hh => ?_)) (hvb u (List.mem_of_getElem? hget))
   exact hother (i * 4 + j) (by rw [hvl]; omega) (by rcases hij with h1 | h1 <;> omega) u a hget ha hh
  rcases List.getElem_of_mem hq with ⟨i, hi, rfl⟩
  rw [List.length_set] at hi
  rw [List.getElem_set]
  split
  ·rename_i e1
   subst e1
   have h0 := h.own.each _ (List.getElem_mem hk)
   exact ⟨key k hk 0 (by omega) (.inr (by omega)) (by simp [RV.vals]) h0.b, key k hk 1 (by omega) (.inr (by omega)) (by simp [RV.vals]) h0.n, hst ho (fun a ha => (hnv a ha).2), key k hk 3 (by omega) (.inr (by omega)) (by simp [RV.vals]) h0.k⟩
  ·rename_i e1
   have h0 := h.own.each _ (List.getElem_mem hi)
   exact ⟨key i hi 0 (by omega) (.inl (fun hh => e1 hh.symm)) (by simp [RV.vals]) h0.b, key i hi 1 (by omega) (.inl (fun hh => e1 hh.symm)) (by simp [RV.vals]) h0.n, key i hi 2 (by omega) (.inl (fun hh => e1 hh.symm)) (by simp [RV.vals]) h0.t, key i hi 3 (by omega) (.inl (fun hh => e1 hh.symm)) (by simp [RV.vals]) h0.k⟩
 ·rw [hset]
  have h1 := far_set hfar0 (1 + (k * 4 + 2)) (by simp [hvl]; omega) v' W.heap.size (fun u hu a ha => (hold u hu a ha).2) (by
   have h5 := vals_get ps k 2 hk (by omega)
   have h6 : (Value.slice (some ⟨b, 0, none⟩) ps.length cap :: ps.flatMap RV.vals)[1 + (k * 4 + 2)]? = some ps[k].vt := by
    rw [Nat.add_comm 1, List.getElem?_cons_succ]
    have h7 : ps[k].vals[2]? = some ps[k].vt := by simp [RV.vals]
    exact h5.trans h7
   rw [List.getElem?_eq_getElem (by simp [hvl]; omega)] at h6
   injection h6 with h6
   rw [h6]; exact hb)
  rw [Nat.add_comm 1, List.set_cons_succ] at h1
  exact h1
 ·intro u hu a ha
  rw [hset] at hu
  rcases List.mem_cons.1 hu with rfl | hu
  ·exact h.new _ (List.mem_cons_self ..) a ha
  ·rcases mem_set_vals hu with h1 | rfl
   ·exact h.new u (List.mem_cons_of_mem _ h1) a ha
   ·exact (hnv a ha).1
theorem DS.app_k {wb w W w2 : World} {p : Nat} {A : Option Addr} {l : List UInt8} {c g b n cap : Nat} {ps : List RV} {R : Nat} (h : DS wb w W p A l c g (.slice (some ⟨b, 0, none⟩) n cap) ps R) (k : Nat) (hk : k < ps.length) {v' : Value} {xs : List Int} (ho : OwnL vint 3 wb w2 v' xs) (he : Ext wb w2)
 (hb : v'.ownBlock = ps[k].vk.ownBlock ∨ v'.ownBlock = some W.heap.size) (hg : W.grownBy w2 ps[k].vk.ownBlock) :
 (w2.cell? ⟨b, k * 8 + 7, none⟩ = some ps[k].vk ∧ w2.frozen? ⟨b, k * 8 + 7, none⟩ = false ∧ w2.cell? ⟨g, 0, none⟩ = some (.slice (some ⟨b, 0, none⟩) n cap)) ∧ DS wb w (w2.setCell ⟨b, k * 8 + 7, none⟩ v') p A l c g (.slice (some ⟨b, 0, none⟩) n cap) (ps.set k ⟨{ ps[k].r with kids := xs }, ps[k].vb, ps[k].vn, ps[k].vt, v'⟩) R := by
 have hn : n = ps.length := by obtain ⟨_, _, hh⟩ := h.own.shape; injection hh
 subst hn
 have hbn := h.new _ (List.mem_cons_self ..) b rfl
 have hblk := h.own.block _ (List.mem_cons_self ..) b rfl
 have hold := h.own.block
 have hmem : ps[k].vk ∈ ps.flatMap RV.vals := List.mem_flatMap.2 ⟨ps[k], List.getElem_mem hk, by simp [RV.vals]⟩
 have hnk := h.new _ (List.mem_cons_of_mem _ hmem)
 have hfar := h.own.far
 have hfar0 := hfar
 unfold Far at hfar
 rw [List.pairwise_cons] at hfar
 have hvl := vals_len ps
 have hbX : ∀ a, ps[k].vk.ownBlock = some a → a ≠ b := fun a ha hh => by subst hh; exact hfar.1 _ hmem a rfl ha
 -- the other values lie elsewhere
 have hother : ∀ i, i < (ps.flatMap RV.vals).length → i ≠ k * 4 + 3 → ∀ u a, (ps.flatMap RV.vals)[i]? = some u → u.ownBlock = some a → ps[k].vk.ownBlock ≠ some a := by
  intro i hi hne u a hu ha hx
  have h4 := hfar.2
  rw [List.pairwise_iff_getElem] at h4
  have h5 := vals_get ps k 3 hk (by omega)
  have h6 : (ps.flatMap RV.vals)[k * 4 + 3]? = some ps[k].vk := by rw [h5]; simp [RV.vals]
  have hlt : k * 4 + 3 < (ps.flatMap RV.vals).length := by rw [hvl]; omega
  rw [List.getElem?_eq_getElem hi] at hu
  rw [List.getElem?_eq_getElem hlt] at h6
  injection hu with hu; injection h6 with h6
  rcases (by omega : i < k * 4 + 3 ∨ k * 4 + 3 < i) with h7 | h7
  ·exact h4 i _ hi hlt h7 a (by rw [hu]; exact ha) (by rw [h6]; exact hx)
  ·exact h4 _ i hlt hi h7 a (by rw [h6]; exact hx) (by rw [hu]; exact ha)
 have hset := vals_put ps k 3 hk v' ⟨{ ps[k].r with kids := xs }, ps[k].vb, ps[k].vn, ps[k].vt, v'⟩ (by omega) (by simp [RV.vals])
 have hrow2 := h.own.row.keep hg (fun a ha hh => by injection ha with ha; exact hbX a hh ha.symm)
 have hnv : ∀ a, v'.ownBlock = some a → (w.heap.size ≤ a ∧ a ≠ g ∧ a ≠ p ∧ a ≠ R) ∧ a ≠ b := by
  intro a ha
  rcases hb with hb | hb
  ·exact ⟨hnk a (hb.symm.trans ha), hbX a (hb.symm.trans ha)⟩
  ·rw [hb] at ha; injection ha with ha
   have h1 := h.box.lt; have h2 := h.res.lt; have h3 := h.cur.lt; have h4 := h.grow.size
   exact ⟨⟨by omega, by omega, by omega, by omega⟩, by omega⟩
 have hB2 : Box w2 g #[.slice (some ⟨b, 0, none⟩) ps.length cap] 26 := h.box.moved hg (fun hh => (hnk g hh).2.1 rfl)
 have hR2 : Box w2 R #[.slice none 0 0] 26 := h.res.moved hg (fun hh => (hnk R hh).2.2.2 rfl)
 have hC2 := Cur.kept h.cur hg (fun hh => (hnk p hh).2.2.1 rfl) he
 have hG2 := grown_own h.grow (fun a ha => (hnk a ha).1) hg
 have hrow := (hrow2.stored (k * 8 + 7) v').1
 rw [cells_put ps k 7 hk v' ⟨{ ps[k].r with kids := xs }, ps[k].vb, ps[k].vn, ps[k].vt, v'⟩ (by omega) (by simp [RV.cells])] at hrow
 have hcell : w2.cell? ⟨b, k * 8 + 7, none⟩ = some ps[k].vk := by
  have h0 := hrow2.cellAt (k * 8 + 7) (by omega)
  rw [h0, cells_get ps k 7 hk (by omega)]
  simp [RV.cells]
 refine ⟨⟨hcell, hrow2.frozenAt _, hB2.cell 0⟩, hB2.other hbn.2.1.symm _ v', ⟨by rw [List.length_set]; exact hrow, fun q hq => ?_, ?_⟩, ?_, hC2.set (a := ⟨b, k * 8 + 7, none⟩) hbn.2.2.1 hblk.1 v', grown_new (a := ⟨b, k * 8 + 7, none⟩) hG2 hbn.1 v', h.gw, h.gb, h.gp, hR2.other hbn.2.2.2.symm _ v', h.gR, h.pR⟩
 ·have hst : ∀ {α : Type} {f : α → Value} {e : TypeId} {u : Value} {xs : List α}, OwnL f e wb w2 u xs → (∀ a, u.ownBlock = some a → a ≠ b) → OwnL f e wb (w2.setCell ⟨b, k * 8 + 7, none⟩ v') u xs := fun hu hub => hu.keep (grown_set w2 ⟨b, k * 8 + 7, none⟩ v') (fun a ha hh => by injection hh with hh; exact hub a ha hh.symm)
  have hvb : ∀ u ∈ ps.flatMap RV.vals, ∀ a, u.ownBlock = some a → a ≠ b := fun u hu a ha hh => by subst hh; exact hfar.1 u hu a rfl ha
  have key : ∀ i (hi : i < ps.length) (j : Nat), j < 4 → (i ≠ k ∨ j ≠ 3) → ∀ {α : Type} {f : α → Value} {e : TypeId} {u : Value} {xs : List α}, ps[i].vals[j]? = some u → OwnL f e wb W u xs → OwnL f e wb (w2.setCell ⟨b, k * 8 + 7, none⟩ v') u xs := by
   intro i hi j hj hij α f e u xs hu hown
   have hget := vals_get ps i j hi hj
   rw [hu] at hget
   refine hst (hown.keep hg (fun a ha hh => ?_)) (hvb u (List.mem_of_getElem? hget))
   exact hother (i * 4 + j) (by rw [hvl]; omega) (by rcases hij with h1 | h1 <;> omega) u a hget ha hh
  rcases List.getElem_of_mem hq with ⟨i, hi, rfl⟩
  rw [List.length_set] at hi
  rw [List.getElem_set]
  split
  ·rename_i e1
   subst e1
   have h0 := h.own.each _ (List.getElem_mem hk)
   exact ⟨key k hk 0 (by omega) (.inr (by omega)) (by simp [RV.vals]) h0.b, key k hk 1 (by omega) (.inr (by omega)) (by simp [RV.vals]) h0.n, key k hk 2 (by omega) (.inr (by omega)) (by simp [RV.vals]) h0.t, hst ho (fun a ha => (hnv a ha).2)⟩
  ·rename_i e1
   have h0 := h.own.each _ (List.getElem_mem hi)
   exact ⟨key i hi 0 (by omega) (.inl (fun hh => e1 hh.symm)) (by simp [RV.vals]) h0.b, key i hi 1 (by omega) (.inl (fun hh => e1 hh.symm)) (by simp [RV.vals]) h0.n, key i hi 2 (by omega) (.inl (fun hh => e1 hh.symm)) (by simp [RV.vals]) h0.t, key i hi 3 (by omega) (.inl (fun hh => e1 hh.symm)) (by simp [RV.vals]) h0.k⟩
 ·rw [hset]
  have h1 := far_set hfar0 (1 + (k * 4 + 3)) (by simp [hvl]; omega) v' W.heap.size (fun u hu a ha => (hold u hu a ha).2) (by
   have h5 := vals_get ps k 3 hk (by omega)
   have h6 : (Value.slice (some ⟨b, 0, none⟩) ps.length cap :: ps.flatMap RV.vals)[1 + (k * 4 + 3)]? = some ps[k].vk := by
    rw [Nat.add_comm 1, List.getElem?_cons_succ]
    have h7 : ps[k].vals[3]? = some ps[k].vk := by simp [RV.vals]
    exact h5.trans h7
   rw [List.getElem?_eq_getElem (by simp [hvl]; omega)] at h6
   injection h6 with h6
   rw [h6]; exact hb)
  rw [Nat.add_comm 1, List.set_cons_succ] at h1
  exact h1
 ·intro u hu a ha
  rw [hset] at hu
  rcases List.mem_cons.1 hu with rfl | hu
  ·exact h.new _ (List.mem_cons_self ..) a ha
  ·rcases mem_set_vals hu with h1 | rfl
   ·exact h.new u (List.mem_cons_of_mem _ h1) a ha
   ·exact (hnv a ha).1
section
variable {P : Program} {ops : Array Oper} {Q : Exit → Act → World → Prop} {md : Region.Mode} {C : Nat → World → Prop} {S : World → Prop}
def wpAnyC (P : Program) (md : Region.Mode) (ops : Array Oper) (Q : Exit → Act → World → Prop) (C : Nat → World → Prop) : Nat → Array Bool → Act → World → Prop
 | 0, listed, a, w => Region.ready md ops listed = [] ∧ Q .normal a w
 | fuel + 1, listed, a, w =>
  (Region.ready md ops listed = [] → Q .normal a w) ∧
  ∀ i ∈ Region.ready md ops listed, wpOp P ops Q i (fun a' w' => C i w' ∧ wpAnyC P md ops Q C fuel (listed.setIfInBounds i true) a' w') a w
theorem wpAny_of_C : ∀ (fuel : Nat) (listed : Array Bool) (a : Act) (w : World), wpAnyC P md ops Q C fuel listed a w → wpAny P md ops Q fuel listed a w
 | 0, _, _, _, h => h
 | fuel + 1, _, _, _, h => ⟨h.1, fun i hi => wpOp_mono (fun a' w' h' => wpAny_of_C fuel _ a' w' h'.2) (h.2 i hi)⟩
def depOn (md : Region.Mode) (ops : Array Oper) : Nat → Nat → Nat → Bool
 | 0, _, _ => false
 | n + 1, j, i => match ops[j]? with
  | some o => o.after.any (fun e => Region.binds md e && e.on == i) || o.after.any (fun e => Region.binds md e && depOn md ops n e.on i)
  | none => false
def Down (md : Region.Mode) (ops : Array Oper) (listed : Array Bool) : Prop := ∀ k o, ops[k]? = some o → listed.getD k false = true → ∀ e ∈ o.after, Region.binds md e = true → listed.getD e.on false = true
theorem dep_listed {listed : Array Bool} (hd : Down md ops listed) {i : Nat} : ∀ (n j : Nat) (o : Oper), ops[j]? = some o → (∀ e ∈ o.after, Region.binds md e = true → listed.getD e.on false = true) → depOn md ops n j i = true → listed.getD i false = true := by
 intro n
 induction n with
 | zero => intro j o _ _ h; cases h
 | succ n ih =>
  intro j o ho hall h
  unfold depOn at h
  rw [ho] at h
  simp only [Bool.or_eq_true, Array.any_eq_true, Bool.and_eq_true, beq_iff_eq] at h
  rcases h with ⟨k, hk, hb, he⟩ | ⟨k, hk, hb, he⟩
  ·rw [← he]; exact hall _ (Array.getElem_mem hk) hb
  ·have h1 := hall _ (Array.getElem_mem hk) hb
   cases h2 : ops[o.after[k].on]? with
   | none => cases n with
    | zero => cases he
    | succ n => unfold depOn at he; rw [h2] at he; cases he
   | some o2 => exact ih _ o2 h2 (hd _ o2 h2 h1) he
theorem getD_false_of {listed : Array Bool} {i : Nat} (h : listed.getD i true = false) : listed.getD i false = false := by
 rcases Nat.lt_or_ge i listed.size with h' | h'
 ·simp [h'] at h ⊢; exact h
 ·simp [h'] at h
theorem Down.set {listed : Array Bool} (hd : Down md ops listed) {j : Nat} (hj : j ∈ Region.ready md ops listed) : Down md ops (listed.setIfInBounds j true) := by
 intro k o ho hk e he hb
 obtain ⟨_, oj, hoj, hall⟩ := mem_ready.1 hj
 by_cases hkj : j = k
 ·subst hkj
  rw [hoj] at ho; injection ho with ho; subst ho
  exact getD_set_true (hall e he hb)
 ·rw [getD_set_ne false hkj] at hk
  exact getD_set_true (hd k o ho hk e he hb)
theorem wpAnyC_first {i : Nat} {oi : Oper} {v : Value} (hi : ops[i]? = some oi) (hsel : ∀ (j : Nat) (o : Oper) cs b, ops[j]? = some o → o.op ≠ .select cs b)
 (hQ : ∀ c a w, Q (.panic c) (a.put oi.dst v) w → Q (.panic c) a w) (n : Nat) (hCi : ∀ w', S w' → C i w') :
 ∀ (fuel : Nat) (listed : Array Bool) (a : Act) (w : World), Down md ops listed →
  (∀ j oj, ops[j]? = some oj → j ≠ i → listed.getD j true = false → (∀ e ∈ oj.after, Region.binds md e = true → e.on ≠ i) → oi.apart ops oj = true) →
  (∀ j oj, ops[j]? = some oj → listed.getD j true = false → j ≠ i → depOn md ops n j i = false → ∀ w', C j w' → S w') →
  i ∈ Region.ready md ops listed → YieldsIf P ops S oi v a → S w →
  wpAnyC P md ops Q C fuel (listed.setIfInBounds i true) (a.put oi.dst v) w → wpAnyC P md ops Q C (fuel + 1) listed a w := by
 intro fuel
 induction fuel with
 | zero =>
  intro listed a w _ _ _ hr hy hS H
  refine ⟨fun h => (by rw [h] at hr; cases hr), fun j hj => ?_⟩
  by_cases hji : j = i
  ·subst hji; exact hy.wpOp hi hS ⟨hCi w hS, H⟩
  ·have := ready_mono hj hji
   rw [H.1] at this
   cases this
 | succ fuel ih =>
  intro listed a w hd hfree hC hr hy hS H
  refine ⟨fun h => (by rw [h] at hr; cases hr), fun j hj => ?_⟩
  by_cases hji : j = i
  ·subst hji; exact hy.wpOp hi hS ⟨hCi w hS, H⟩
  ·have h1 := H.2 j (ready_mono hj hji)
   obtain ⟨hjun, oj, hoj, hall⟩ := mem_ready.1 hj
   have hiun := getD_false_of (mem_ready.1 hr).1
   have hnot : ∀ e ∈ oj.after, Region.binds md e = true → e.on ≠ i := fun e he hb heq => by
    have h1 := hall e he hb
    rw [heq, hiun] at h1; cases h1
   have hnd : depOn md ops n j i = false := by
    rw [Bool.eq_false_iff]
    intro hh
    have := dep_listed hd n j oj hoj hall hh
    rw [hiun] at this; cases this
   have h2 := wpOp_putIf hoj (hfree j oj hoj hji hjun hnot) (fun cs b => hsel i oi cs b hi) (fun cs b => hsel j oj cs b hoj) hQ hy h1
   have hfree' : ∀ k ok, ops[k]? = some ok → k ≠ i → (listed.setIfInBounds j true).getD k true = false →
    (∀ e ∈ ok.after, Region.binds md e = true → e.on ≠ i) → oi.apart ops ok = true := fun k ok hk hki hun hno => by
    refine hfree k ok hk hki ?_ hno
    by_cases hjk : j = k
    ·subst hjk; exact hjun
    ·rw [getD_set_ne true hjk] at hun; exact hun
   have hC' : ∀ k ok, ops[k]? = some ok → (listed.setIfInBounds j true).getD k true = false → k ≠ i → depOn md ops n k i = false → ∀ w', C k w' → S w' := fun k ok hk hun hki hno => by
    refine hC k ok hk ?_ hki hno
    by_cases hjk : j = k
    ·subst hjk; exact hjun
    ·rw [getD_set_ne true hjk] at hun; exact hun
   refine wpOp_mono (fun a' w' h3 => ⟨h3.2.1, ih (listed.setIfInBounds j true) a' w' (hd.set hj) hfree' hC' (ready_mono hr (Ne.symm hji)) h3.1 (hC j oj hoj hjun hji hnd w' h3.2.1) ?_⟩) h2
   rw [Array.setIfInBounds_comm _ _ hji]
   exact h3.2.2
def downB (md : Region.Mode) (ops : Array Oper) (listed : Array Bool) : Bool := (List.range ops.size).all fun k => !listed.getD k false || ((ops[k]?).map fun o => o.after.all fun e => !Region.binds md e || listed.getD e.on false).getD true
theorem downB_spec {listed : Array Bool} (h : downB md ops listed = true) : Down md ops listed := by
 intro k o ho hk e he hb
 have hlt : k < ops.size := (Array.getElem?_eq_some_iff.1 ho).1
 have h1 := List.all_eq_true.1 h k (List.mem_range.2 hlt)
 rw [hk, ho] at h1
 simp only [Bool.not_true, Bool.false_or, Option.map_some, Option.getD_some, Array.all_eq_true_iff_forall_mem] at h1
 have h2 := h1 e he
 rw [hb] at h2
 simpa using h2
def takeB (md : Region.Mode) (ops : Array Oper) (listed : Array Bool) (c : List Nat) (i t : Nat) : Bool :=
 decide (c.getD i 0 ≤ t) && (List.range ops.size).all fun j => listed.getD j true || j == i || depOn md ops 12 j i || decide (t ≤ c.getD j 0)
theorem wpAnyC_take {Lv : Nat → World → Prop} {c : List Nat} (t : Nat) {i : Nat} {oi : Oper} {v : Value} {fuel : Nat} {listed : Array Bool} {a : Act} {w : World} (hmono : ∀ a b w, a ≤ b → Lv b w → Lv a w) (hi : ops[i]? = some oi)
 (hs : Region.noSelect ops = true) (hf : Region.free md ops listed i = true) (hr : (Region.ready md ops listed).contains i = true) (hd : downB md ops listed = true) (ht : takeB md ops listed c i t = true)
 (hQ : ∀ c a w, Q (.panic c) (a.put oi.dst v) w → Q (.panic c) a w) (hS : Lv t w) (hy : YieldsIf P ops (Lv t) oi v a)
 (h : wpAnyC P md ops Q (fun j => Lv (c.getD j 0)) fuel (listed.setIfInBounds i true) (a.put oi.dst v) w) : wpAnyC P md ops Q (fun j => Lv (c.getD j 0)) (fuel + 1) listed a w := by
 unfold takeB at ht
 rw [Bool.and_eq_true, decide_eq_true_eq] at ht
 refine wpAnyC_first (S := Lv t) (C := fun j => Lv (c.getD j 0)) hi (Region.noSelect_spec hs) hQ 12 (fun w' h' => hmono _ _ w' ht.1 h') fuel listed a w (downB_spec hd) (Region.free_spec hi hf) (fun j oj hoj hj hji hdj w' hc => ?_) (by simpa using hr) hy hS h
 have hlt : j < ops.size := (Array.getElem?_eq_some_iff.1 hoj).1
 have h1 := List.all_eq_true.1 ht.2 j (List.mem_range.2 hlt)
 rw [hj, hdj] at h1
 simp only [Bool.false_or, Bool.or_false, Bool.or_eq_true, beq_iff_eq, decide_eq_true_eq] at h1
 rcases h1 with h1 | h1
 ·exact absurd h1 hji
 ·exact hmono _ _ w' h1 hc
theorem wpAnyC_one {i : Nat} {o : Oper} {fuel : Nat} {listed : Array Bool} {a : Act} {w : World} (hr : Region.ready md ops listed = [i]) (ho : ops[i]? = some o)
 (h : ∀ K : Act → World → Prop, Shut (∀ a w, C i w → wpAnyC P md ops Q C fuel (listed.setIfInBounds i true) a w → K a w) → if Region.wanted o (yielded ops a.tmps) = true then Oper.wp P o a w K Q else K (a.put o.dst undef) w) : wpAnyC P md ops Q C (fuel + 1) listed a w := by
 refine ⟨fun h0 => (by rw [hr] at h0; cases h0), fun j hj => ?_⟩
 rw [hr, List.mem_singleton] at hj
 subst hj
 exact wpOp_step ho (fun K' hK => h K' (fun a w hC hW => hK a w ⟨hC, hW⟩))
theorem wpAnyC_done {listed : Array Bool} {a : Act} {w : World} (hr : Region.ready md ops listed = []) (h : Q .normal a w) : ∀ fuel, wpAnyC P md ops Q C fuel listed a w
 | 0 => ⟨hr, h⟩
 | _ + 1 => ⟨fun _ => h, by rw [hr]; simp⟩
theorem wp_region_C {id : Nat} {a : Act} {w : World} (hm : P.follows .mixedOrders = true)
 (h : wpAnyC P .any ops Q C ops.size (Array.replicate ops.size false) a w.drew) : (Code.region id ops true).wp P Q a w :=
 wp_region_any hm (wpAny_of_C _ _ _ _ h)
end
def lv2 (A B : World → Prop) : Nat → World → Prop
 | 0, _ => True
 | 1, w => A w
 | _ + 2, w => A w ∧ B w
theorem lv2_mono (A B : World → Prop) : ∀ a b w, a ≤ b → lv2 A B b w → lv2 A B a w
 | 0, _, _, _, _ => trivial
 | 1, 1, _, _, h => h
 | 1, _ + 2, _, _, h => h.1
 | _ + 2, _ + 2, _, _, h => h
theorem tkC {P : Program} {ops : Array Oper} {Q : Exit → Act → World → Prop} {md : Region.Mode} {A B : World → Prop} {c : List Nat} (t : Nat) {i : Nat} {oi : Oper} {v : Value} {fuel : Nat} {listed : Array Bool} {a : Act} {w : World}
 (hi : ops[i]? = some oi) (hb : (Region.noSelect ops && Region.free md ops listed i && (Region.ready md ops listed).contains i && downB md ops listed && takeB md ops listed c i t) = true) (hS : lv2 A B t w) (hy : YieldsIf P ops (lv2 A B t) oi v a)
 (h : wpAnyC P md ops Q (fun j => lv2 A B (c.getD j 0)) fuel (listed.setIfInBounds i true) (a.put oi.dst v) w) (hQ : ∀ c a w, Q (.panic c) (a.put oi.dst v) w → Q (.panic c) a w := by exact fun _ _ _ h => h) :
 wpAnyC P md ops Q (fun j => lv2 A B (c.getD j 0)) (fuel + 1) listed a w := by
 simp only [Bool.and_eq_true] at hb
 exact wpAnyC_take t (lv2_mono A B) hi hb.1.1.1.1 hb.1.1.1.2 hb.1.1.2 hb.1.2 hb.2 hQ hS hy h
end Go.Proofs.YtpmcofmdjckijaaGreatDoor
