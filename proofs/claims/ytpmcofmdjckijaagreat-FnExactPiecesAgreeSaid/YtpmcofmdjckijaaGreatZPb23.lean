/- Texts, laid into one. -/
import Derived.Test.YtpmcofmdjckijaaGreatZPb12
import Derived.Test.YtpmcofmdjckijaaGreatZPb21
import Derived.Deep.CutBlock
set_option linter.unusedVariables false
set_option linter.unusedSimpArgs false
set_option maxRecDepth 100000
set_option maxHeartbeats 16000000
namespace Go.Proofs.YtpmcofmdjckijaaGreat
open Go.RowKit
def Mach.fail (m : Mach) (c : Int) : Mach := { m with state := 2, code := c }
def Mach.start (m : Mach) (n : Int) : Mach := if n = 0 then { m with pc := wrap64 (m.pc + 1) } else { m with started := true, left := n }
def Mach.push (m : Mach) (n : Int) : Mach := if 60 ≤ m.stack.length then m.fail 8 else { m with stack := m.stack ++ [n] }
def Mach.pop (m : Mach) : Mach := if m.stack.length = 0 then m.fail 8 else { m with stack := m.stack.dropLast }
def Mach.last (m : Mach) : Int := m.stack.getLastD 0
def Mach.loop (m : Mach) (a : Int) : Mach :=
 if m.stack.length = 0 then m.pop
 else if m.last = 0 then { m.pop with pc := a }
 else { m.pop with stack := m.pop.stack ++ [wrap64 (m.last - 1)], pc := wrap64 (m.pop.pc + 1) }
def Mach.reads (m : Mach) (x : Ins) : Mach × Bool :=
 if x.1 = 1 then (({ m with reg := 0 } : Mach).start x.2.1, true)
 else if x.1 = 3 then (m.start x.2.1, true)
 else if x.1 = 4 then (m.start m.reg, true)
 else if x.1 = 2 then (m.start 1, true)
 else if x.1 = 13 then (m.start 1, true)
 else if x.1 = 16 then (m.start 1, true)
 else if x.1 = 15 then (if m.sums.length = 0 then m.fail 8 else m.start 1, true)
 else (m, false)
def Mach.moves (m : Mach) (x : Ins) : Mach :=
 if x.1 = 6 then (if m.stack.length < 60 then { m.push m.reg with pc := wrap64 ((m.push m.reg).pc + 1) } else m.push m.reg)
 else if x.1 = 7 then m.loop x.2.1
 else if x.1 = 8 then { m with pc := x.2.1 }
 else if x.1 = 9 then (if m.stack.length < 60 then { m.push (wrap64 (m.pc + 1)) with pc := x.2.1 } else m.push (wrap64 (m.pc + 1)))
 else if x.1 = 10 then (if 0 < m.stack.length then { m.pop with pc := m.last } else m.pop)
 else if x.1 = 14 then (if 30 ≤ m.sums.length then m.fail 8 else { m with sums := m.sums ++ [0], pc := wrap64 (m.pc + 1) })
 else m
end Go.Proofs.YtpmcofmdjckijaaGreat
namespace Go.Proofs.YtpmcofmdjckijaaGreat
open Go.RowKit Go.Sort
theorem sFail_c (X : Nat → Prop) (W0 : World) (p : Nat) (m : Mach) (c : Int) (w : World) (h : MV X W0 w p m) :
 Calls Tryz.prog 93 #[.pointer (some ⟨p, 0, none⟩), .int .i64 c] w fun e w' => e = .returned (.tuple #[]) ∧ MV X W0 w' p (m.fail c) ∧ MR X w w' := by
 obtain ⟨vs, vq, hb⟩ := h
 have r := hb.box.cell; have f := hb.box.free
 have H1 := Lib.hid ((hb.put (m' := { m with state := 2 }) 7 (.int .i64 2) rfl rfl rfl).put (m' := m.fail c) 8 (.int .i64 c) rfl rfl rfl)
 have H2 : Hid (MR X w ((w.setCell ⟨p, 7, none⟩ (.int .i64 2)).setCell ⟨p, 8, none⟩ (.int .i64 c))) := (MR.set _ hb.xp).trans (MR.set _ hb.xp)
 have r7 : w.cell? ⟨p, 7, none⟩ = some (.int .i64 m.state) := r 7
 have r8 : w.cell? ⟨p, 8, none⟩ = some (.int .i64 m.code) := r 8
 have f7 := f 7; have f8 := f 8
 clear r f hb
 go_enter Tryz.func93, Tryz.ntmps93
 go_wp2
 exact bodyPost_end (results_none rfl _ _ _) rfl ⟨rfl, ⟨_, _, H1.out⟩, H2.out⟩
theorem sStart_c (X : Nat → Prop) (W0 : World) (p : Nat) (m : Mach) (c : Int) (w : World) (h : MV X W0 w p m) :
 Calls Tryz.prog 198 #[.pointer (some ⟨p, 0, none⟩), .int .i64 c] w fun e w' => e = .returned (.tuple #[]) ∧ MV X W0 w' p (m.start c) ∧ MR X w w' := by
 obtain ⟨vs, vq, hb⟩ := h
 have r := hb.box.cell; have f := hb.box.free
 have r0 : w.cell? ⟨p, 0, none⟩ = some (.int .i64 m.pc) := r 0
 have r4 : w.cell? ⟨p, 4, none⟩ = some (.int .i64 m.left) := r 4
 have r5 : w.cell? ⟨p, 5, none⟩ = some (.bool m.started) := r 5
 have f0 := f 0; have f4 := f 4; have f5 := f 5
 clear r f
 by_cases hc : c = 0
 ·subst hc
  have HM : Hid (m.start 0 = { m with pc := wrap64 (m.pc + 1) }) := rfl
  have H1 := Lib.hid (hb.put (m' := m.start 0) 0 (.int .i64 (wrap64 (m.pc + 1))) rfl rfl rfl)
  have H2 : Hid (MR X w (w.setCell ⟨p, 0, none⟩ (.int .i64 (wrap64 (m.pc + 1))))) := MR.set _ hb.xp
  clear hb
  go_enter Tryz.func198, Tryz.ntmps198
  go_wp2
  first
   | exact bodyPost_end (results_none rfl _ _ _) rfl ⟨rfl, ⟨_, _, H1.out⟩, H2.out⟩
   | exact bodyPost_ret (results_none rfl _ _ _) rfl ⟨rfl, ⟨_, _, H1.out⟩, H2.out⟩
 ·have HM : Hid (m.start c = { m with started := true, left := c }) := by show _ = _; unfold Mach.start; rw [if_neg hc]
  have H1 := Lib.hid ((hb.put (m' := { m with started := true }) 5 (.bool true) rfl rfl rfl).put (m' := { m with started := true, left := c }) 4 (.int .i64 c) rfl rfl rfl)
  have H2 : Hid (MR X w ((w.setCell ⟨p, 5, none⟩ (.bool true)).setCell ⟨p, 4, none⟩ (.int .i64 c))) := (MR.set _ hb.xp).trans (MR.set _ hb.xp)
  clear hb
  rw [HM.out]
  go_enter Tryz.func198, Tryz.ntmps198
  go_wp2
  first
   | exact bodyPost_end (results_none rfl _ _ _) rfl ⟨rfl, ⟨_, _, H1.out⟩, H2.out⟩
   | exact bodyPost_ret (results_none rfl _ _ _) rfl ⟨rfl, ⟨_, _, H1.out⟩, H2.out⟩
theorem MR.alloc {X : Nat → Prop} {w : World} (o : Obj) (hX : ∀ k, X k → k < w.heap.size) : MR X w (w.alloc o) := MR.of_ext (Ext_alloc o (Ext.refl w)) hX
theorem Own.slice2 {e : TypeId} {size : Nat} {w0 w : World} {v : Value} {n : Nat} {xs : List Value} (h : Own e size w0 w v n xs) : ∃ A m c, v = .slice A m c := by
 rcases h.2 with ⟨rfl, _⟩ | ⟨g, cap, _, rfl, _⟩
 ·exact ⟨_, _, _, rfl⟩
 ·exact ⟨_, _, _, rfl⟩
theorem sPush_c (X : Nat → Prop) (W0 : World) (p : Nat) (m : Mach) (n : Int) (w : World) (h : MV X W0 w p m) (hs : m.stack.length ≤ 60) :
 Calls Tryz.prog 199 #[.pointer (some ⟨p, 0, none⟩), .int .i64 n] w fun e w' => e = .returned (.bool (decide (m.stack.length < 60))) ∧ MV X W0 w' p (m.push n) ∧ MR X w w' := by
 have CF := Lib.hid (fun w h => sFail_c X W0 p m 8 w h)
 have HV := Lib.hid h
 obtain ⟨vs, vq, hb⟩ := h
 have r := hb.box.cell; have f := hb.box.free
 obtain ⟨A, c, hvs, _⟩ := OwnL.rd hb.os (by omega)
 subst hvs
 have r2 : w.cell? ⟨p, 2, none⟩ = some (.slice A m.stack.length c) := r 2
 have f2 := f 2
 clear r f
 by_cases hc : 60 ≤ m.stack.length
 ·have HM : Hid (m.push n = m.fail 8) := by show _ = _; unfold Mach.push; rw [if_pos hc]
  have hd : decide (m.stack.length < 60) = false := by simp; omega
  rw [hd, HM.out]
  have hci : (60 : Int) ≤ (m.stack.length : Int) := by omega
  clear hb hd
  go_enter Tryz.func199, Tryz.ntmps199
  go_wp2_with fail
  refine (CF.out _ HV.out).mono ?_; rintro _ w1 ⟨rfl, hm1, hr1⟩
  go_wp2
  go_ret
  exact ⟨rfl, hm1, hr1⟩
 ·have HM : Hid (m.push n = { m with stack := m.stack ++ [n] }) := by show _ = _; unfold Mach.push; rw [if_neg hc]
  have hd : decide (m.stack.length < 60) = true := by simp; omega
  rw [hd, HM.out]
  have hci : ¬ (60 : Int) ≤ (m.stack.length : Int) := by omega
  have e1 := Ext_alloc (.cells #[.int .i64 n] 3) (Ext.refl w)
  have HB1 := Lib.hid (hb.next e1)
  have HM1 : Hid (MR X w (w.alloc (.cells #[.int .i64 n] 3))) := MR.alloc _ hb.low
  have HBD : Hid ((m.stack.length + [n].length) * 8 ≤ 140737488355328) := by show _ ≤ _; simp; omega
  have HO := Lib.hid hb.os; have HE := Lib.hid hb.ext
  clear hb hd
  go_enter Tryz.func199, Tryz.ntmps199
  go_wp2_with (first
   | (at_builtin; go_must (refine wpList_appNB rfl (.tmp 17) (.tmp 19) _ rfl E_int (by omega) W0 _ vint (fun _ => rfl) _ rfl _ _ _ rfl (by simp) m.stack [n] _ rfl HO.out HE.out rfl HBD.out ?_); intro v1 w1 ho1 he1 hv1 hg1; obtain ⟨A1, n1, c1, hv1'⟩ := Own.slice2 ho1; subst hv1'; have q2 : w1.cell? ⟨p, 2, none⟩ = some (Value.slice A m.stack.length c) := (HB1.out.box.moved hg1 HB1.out.n1).cell 2; have q2f := (HB1.out.box.moved hg1 HB1.out.n1).free 2))
  go_ret
  refine ⟨rfl, ⟨_, _, HB1.out.putS (m' := { m with stack := m.stack ++ [n] }) ho1 he1 hv1 hg1 rfl rfl⟩, HM1.out.trans ((MR.grown hg1 (fun b hb => HB1.out.xs b hb) HB1.out.low).trans (MR.set _ HB1.out.xp))⟩
theorem sPop_c (X : Nat → Prop) (W0 : World) (p : Nat) (m : Mach) (w : World) (h : MV X W0 w p m) (hs : m.stack.length ≤ 60) :
 Calls Tryz.prog 201 #[.pointer (some ⟨p, 0, none⟩)] w fun e w' => e = .returned (.tuple #[.int .i64 (m.stack.getLastD 0), .bool (decide (0 < m.stack.length))]) ∧ MV X W0 w' p m.pop ∧ MR X w w' := by
 have CF := Lib.hid (fun w h => sFail_c X W0 p m 8 w h)
 have HV := Lib.hid h
 obtain ⟨vs, vq, hb⟩ := h
 obtain ⟨A, c, hvs, rS⟩ := OwnL.rd hb.os (by omega)
 have hcap := rS.cap
 subst hvs
 have r2 : ∀ w', Ext w w' → w'.cell? ⟨p, 2, none⟩ = some (Value.slice A m.stack.length c) := fun w' e => (hb.box.ext e).cell 2
 have r20 := r2 w (Ext.refl _)
 by_cases hc : m.stack.length = 0
 ·have HM : Hid (m.pop = m.fail 8) := by show _ = _; unfold Mach.pop; rw [if_pos hc]
  have hd : decide (0 < m.stack.length) = false := decide_eq_false (by omega)
  have hnil : m.stack = [] := List.eq_nil_of_length_eq_zero hc
  have hl : m.stack.getLastD 0 = 0 := by rw [hnil]; rfl
  rw [hd, HM.out, hl]
  rw [hc] at r20
  clear hb hd hl hnil r2 hc rS
  go_enter Tryz.func201, Tryz.ntmps201
  go_wp2_with fail
  refine (CF.out _ HV.out).mono ?_; rintro _ w1 ⟨rfl, hm1, hr1⟩
  go_wp2
  exact bodyPost_ret (v := .tuple #[.int .i64 0, .bool false]) (by simp [results, Tryz.results201, go_sem]) rfl ⟨rfl, hm1, hr1⟩
 ·have HM : Hid (m.pop = { m with stack := m.stack.dropLast }) := by show _ = _; unfold Mach.pop; rw [if_neg hc]
  have hd : decide (0 < m.stack.length) = true := decide_eq_true (by omega)
  obtain ⟨b, off, hA, _, hcl⟩ := rS.at (m.stack.length - 1) (by omega)
  have HL : Hid (m.stack.getLastD 0 = m.stack[m.stack.length - 1]'(by omega)) := by
   show _ = _
   rw [List.getLastD_eq_getLast?, List.getLast?_eq_getElem?, List.getElem?_eq_getElem (by omega)]; rfl
  rw [hd, HM.out, HL.out]
  have hcl' : ∀ w', Ext w w' → w'.cell? ⟨b, off + (m.stack.length - 1), none⟩ = some (.int .i64 (m.stack[m.stack.length - 1]'(by omega))) := hcl
  have HB := Lib.hid hb
  have hne : ((m.stack.length : Int) == 0) = false := by rw [beq_eq_false_iff_ne]; omega
  have hpos : 0 < m.stack.length := by omega
  have HPOS := Lib.hid hpos
  subst hA
  generalize m.stack[m.stack.length - 1]'(by omega) = y at *
  have hi0 : (0 : Int) ≤ (m.stack.length : Int) - 1 := by omega
  have hi1 : (m.stack.length : Int) - 1 < (m.stack.length : Int) := by omega
  have hi2 : ((m.stack.length : Int) - 1).toNat = m.stack.length - 1 := by omega
  have hi3 : (m.stack.length : Int) - 1 ≤ (c : Int) := by omega
  have hiw : IntKind.i64.wrap ((m.stack.length : Int) - 1) = (m.stack.length : Int) - 1 := IntWalk.i64_in _ (by omega)
  clear hb hd hcl HL rS hc hpos
  go_enter Tryz.func201, Tryz.ntmps201
  go_wp2_with fail
  refine wp_region_quiet_below (by kernel_rfl) (by kernel_rfl) ?_
  repeat (go_big_quiet_step ((fail)))
  refine wpQuiet_nil ?_
  rintro w4 ⟨⟨nq, osq⟩, hq⟩
  have ew4 := ext_of_q hq
  clear hq nq osq
  have r24 := fun w' (e : Ext w4 w') => r2 w' (ew4.trans e)
  go_wp2_with fail
  refine region_qtail_below 14 (by kernel_rfl) (by kernel_rfl) ?_
  simp only [List.take_succ_cons, List.take_zero, List.drop_succ_cons, List.drop_zero]
  repeat (go_big_quiet_step (fail))
  refine wpQuiet_nil ?_
  rintro w5 ⟨⟨nq, osq⟩, hq⟩
  have e5 := ext_of_q hq
  have e45 := ew4.trans e5
  clear hq nq osq hiw
  have HB5 := Lib.hid (HB.out.next e45)
  have q2 := HB5.out.box.cell 2; have q2f := HB5.out.box.free 2
  have q2' : w5.cell? ⟨p, 2, none⟩ = some (Value.slice (some ⟨b, off, none⟩) m.stack.length c) := q2
  clear q2
  go_wp2
  refine bodyPost_ret (v := .tuple #[.int .i64 y, .bool true]) (by simp [results, Tryz.results201, go_sem]) rfl ?_
  refine ⟨rfl, ⟨_, _, HB5.out.putS (m' := { m with stack := m.stack.dropLast }) (OwnL.pop HB5.out.os HPOS.out) HB5.out.ext (.inl rfl) (World.grownBy.refl _ _) rfl rfl⟩, (MR.of_ext e45 HB.out.low).trans (MR.set _ HB5.out.xp)⟩
theorem sLoopM_c (X : Nat → Prop) (W0 : World) (p : Nat) (m : Mach) (a : Int) (w : World) (h : MV X W0 w p m) (hs : m.stack.length ≤ 60) :
 Calls Tryz.prog 200 #[.pointer (some ⟨p, 0, none⟩), .int .i64 a] w fun e w' => e = .returned (.tuple #[]) ∧ MV X W0 w' p (m.loop a) ∧ MR X w w' := by
 have CP := Lib.hid (sPop_c X W0 p m w h hs)
 by_cases h0 : m.stack.length = 0
 ·have HM : Hid (m.loop a = m.pop) := by show _ = _; unfold Mach.loop; rw [if_pos h0]
  have hd : decide (0 < m.stack.length) = false := decide_eq_false (by omega)
  rw [hd] at CP
  rw [HM.out]
  clear h0 hd
  go_enter Tryz.func200, Tryz.ntmps200
  go_wp2_with fail
  refine CP.out.mono ?_; rintro _ w1 ⟨rfl, hm1, hr1⟩
  go_wp2
  exact bodyPost_end (results_none rfl _ _ _) rfl ⟨rfl, hm1, hr1⟩
 have hd : decide (0 < m.stack.length) = true := decide_eq_true (by omega)
 rw [hd] at CP
 have hps : m.pop.stack.length ≤ 60 := by unfold Mach.pop; rw [if_neg h0]; simp; omega
 have HPS := Lib.hid hps
 by_cases hl : m.last = 0
 ·have HM : Hid (m.loop a = { m.pop with pc := a }) := by show _ = _; unfold Mach.loop; rw [if_neg h0, if_pos hl]
  have hl' : m.stack.getLastD 0 = 0 := hl
  rw [hl'] at CP
  rw [HM.out]
  clear h0 hd hl hl' hps
  generalize m.pop = q at *
  go_enter Tryz.func200, Tryz.ntmps200
  go_wp2_with fail
  refine CP.out.mono ?_; rintro _ w1 ⟨rfl, ⟨vs, vq, hb⟩, hr1⟩
  have r0 : w1.cell? ⟨p, 0, none⟩ = some (.int .i64 q.pc) := hb.box.cell 0
  have f0 := hb.box.free 0
  go_wp2
  exact bodyPost_end (results_none rfl _ _ _) rfl ⟨rfl, ⟨_, _, hb.put (m' := { q with pc := a }) 0 (.int .i64 a) rfl rfl rfl⟩, hr1.trans (MR.set _ hb.xp)⟩
 ·have HM : Hid (m.loop a = { m.pop with stack := m.pop.stack ++ [wrap64 (m.stack.getLastD 0 - 1)], pc := wrap64 (m.pop.pc + 1) }) := by show _ = _; unfold Mach.loop; rw [if_neg h0, if_neg hl]; rfl
  have hl' : ¬ m.stack.getLastD 0 = 0 := hl
  rw [HM.out]
  generalize m.stack.getLastD 0 = y at *
  have hyb : (y == 0) = false := by simp [hl']
  clear h0 hd hl hps
  generalize m.pop = q at *
  go_enter Tryz.func200, Tryz.ntmps200
  go_wp2_with fail
  refine CP.out.mono ?_; rintro _ w1 ⟨rfl, ⟨vs, vq, hb⟩, hr1⟩
  obtain ⟨A, c, hvs, _⟩ := OwnL.rd hb.os (by have := HPS.out; omega)
  subst hvs
  have r2 : w1.cell? ⟨p, 2, none⟩ = some (Value.slice A q.stack.length c) := hb.box.cell 2
  have e1 := Ext_alloc (.cells #[.int .i64 (wrap64 (y - 1))] 3) (Ext.refl w1)
  have HB1 := Lib.hid (hb.next e1)
  have HM1 : Hid (MR X w1 (w1.alloc (.cells #[.int .i64 (wrap64 (y - 1))] 3))) := MR.alloc _ hb.low
  have HBD : Hid ((q.stack.length + [wrap64 (y - 1)].length) * 8 ≤ 140737488355328) := by show _ ≤ _; have := HPS.out; simp; omega
  have HO := Lib.hid hb.os; have HE := Lib.hid hb.ext; have HXP := Lib.hid hb.xp; have HR1 := Lib.hid hr1
  clear hb hr1
  go_wp2_with (first
   | (at_builtin; go_must (refine wpList_appNB rfl (.tmp 15) (.tmp 18) _ rfl E_int (by omega) W0 _ vint (fun _ => rfl) _ rfl _ _ _ rfl (by simp) q.stack [wrap64 (y - 1)] _ rfl HO.out HE.out rfl HBD.out ?_); intro v3 w3 ho3 he3 hv3 hg3; obtain ⟨A3, n3, c3, hv3'⟩ := Own.slice2 ho3; subst hv3'; have q2 : w3.cell? ⟨p, 2, none⟩ = some (Value.slice A q.stack.length c) := (HB1.out.box.moved hg3 HB1.out.n1).cell 2; have q2f := (HB1.out.box.moved hg3 HB1.out.n1).free 2; have q0 : w3.cell? ⟨p, 0, none⟩ = some (.int .i64 q.pc) := (HB1.out.box.moved hg3 HB1.out.n1).cell 0; have q0f := (HB1.out.box.moved hg3 HB1.out.n1).free 0))
  have HB4 := HB1.out.putS (m' := { q with stack := q.stack ++ [wrap64 (y - 1)] }) ho3 he3 hv3 hg3 rfl rfl
  exact bodyPost_end (results_none rfl _ _ _) rfl ⟨rfl, ⟨_, _, HB4.put (m' := { q with stack := q.stack ++ [wrap64 (y - 1)], pc := wrap64 (q.pc + 1) }) 0 (.int .i64 (wrap64 (q.pc + 1))) rfl rfl rfl⟩, HR1.out.trans (HM1.out.trans ((MR.grown hg3 (fun b hb => HB1.out.xs b hb) HB1.out.low).trans ((MR.set _ HXP.out).trans (MR.set _ HXP.out))))⟩
theorem MR.cell {X : Nat → Prop} {w w' : World} (h : MR X w w') {b : Nat} (hb : X b) (o : Nat) : w'.cell? ⟨b, o, none⟩ = w.cell? ⟨b, o, none⟩ := World.cell?_of_block (w := w) (a := ⟨b, o, none⟩) (h.kept b hb)
theorem MB.weak {X Y : Nat → Prop} {W0 w : World} {p : Nat} {m : Mach} {vs vq : Value} (h : MB X W0 w p m vs vq) (hY : ∀ k, Y k → X k) : MB Y W0 w p m vs vq :=
 ⟨h.lo, h.box, h.os, h.oq, h.n1, h.n2, h.far, fun hy => h.xp (hY _ hy), fun b hb hy => h.xs b hb (hY _ hy), fun b hb hy => h.xq b hb (hY _ hy), fun k hk => h.low k (hY k hk), h.ext⟩
theorem MB.guard {X : Nat → Prop} {W0 w : World} {p : Nat} {m : Mach} {vs vq : Value} (h : MB X W0 w p m vs vq) (o : Obj) : MB (fun k => X k ∨ k = w.heap.size) W0 (w.alloc o) p m vs vq := by
 have h1 := h.next (Ext_alloc o (Ext.refl w))
 have hp := h.box.lt
 refine ⟨h1.lo, h1.box, h1.os, h1.oq, h1.n1, h1.n2, h1.far, ?_, ?_, ?_, ?_, h1.ext⟩
 ·rintro (hx | hx)
  ·exact h.xp hx
  ·omega
 ·rintro b hb (hx | hx)
  ·exact h.xs b hb hx
  ·have := (World.ownsRow.lt h.os b hb).2; omega
 ·rintro b hb (hx | hx)
  ·exact h.xq b hb hx
  ·have := (World.ownsRow.lt h.oq b hb).2; omega
 ·rintro k (hx | hx)
  ·have := h.low k hx; simp; omega
  ·simp; omega
theorem sReads_c (X : Nat → Prop) (W0 : World) (p : Nat) (m : Mach) (x : Ins) (w : World) (h : MV X W0 w p m) :
 Calls Tryz.prog 190 #[.pointer (some ⟨p, 0, none⟩), .agg #[.int .i64 x.1, .int .i64 x.2.1, .int .i64 x.2.2]] w fun e w' => e = .returned (.bool (m.reads x).2) ∧ MV X W0 w' p (m.reads x).1 ∧ MR X w w' := by
 obtain ⟨vs, vq, hb⟩ := h
 have CS := Lib.hid (fun (m : Mach) (c : Int) w h => sStart_c X W0 p m c w h)
 have CF := Lib.hid (fun w h => sFail_c X W0 p m 8 w h)
 obtain ⟨W1, hW1⟩ : ∃ W, Hid (W = w.alloc (.cells #[.int .i64 x.1, .int .i64 x.2.1, .int .i64 x.2.2] 79)) := ⟨_, rfl⟩
 have e1 : Ext w W1 := ka hW1
 have HB := Lib.hid (hb.next e1)
 have HR1 : Hid (MR X w W1) := MR.of_ext e1 hb.low
 have hpl : p < w.heap.size := hb.box.lt
 have hne : p ≠ w.heap.size := by omega
 have hne' : w.heap.size ≠ p := by omega
 have hbi : Box W1 w.heap.size #[.int .i64 x.1, .int .i64 x.2.1, .int .i64 x.2.2] 79 := kb hW1
 have i0 : W1.cell? ⟨w.heap.size, 0, none⟩ = some (.int .i64 x.1) := hbi.cell 0
 have i1 : W1.cell? ⟨w.heap.size, 1, none⟩ = some (.int .i64 x.2.1) := hbi.cell 1
 have r1 : W1.cell? ⟨p, 1, none⟩ = some (.int .i64 m.reg) := HB.out.box.cell 1
 have f1 := HB.out.box.free 1
 rw [hW1.out] at i0 i1 r1 f1
 obtain ⟨o, a, z⟩ := x
 dsimp only at *
 clear e1 hbi
 by_cases h1 : o = 1
 ·subst h1
  have H2 := Lib.hid ((hb.put (m' := { m with reg := 0 }) 1 (.int .i64 0) rfl rfl rfl).next (Ext_alloc (.cells #[.int .i64 1, .int .i64 a, .int .i64 z] 79) (Ext.refl _)))
  have H3 := Lib.hid ((MR.set (i := 1) (Value.int .i64 0) hb.xp).trans (MR.alloc (.cells #[.int .i64 1, .int .i64 a, .int .i64 z] 79) (fun k hk => by simpa using hb.low k hk)))
  clear hb
  go_enter Tryz.func190, Tryz.ntmps190
  go_wp2_with fail
  refine (CS.out { m with reg := 0 } a _ ⟨_, _, H2.out⟩).mono ?_; rintro _ w2 ⟨rfl, hm2, hr2⟩
  go_wp2
  go_ret
  exact ⟨rfl, hm2, H3.out.trans hr2⟩
 by_cases h3 : o = 3
 ·subst h3
  clear hb
  go_enter Tryz.func190, Tryz.ntmps190
  go_wp2_with fail
  rw [← hW1.out]
  refine (CS.out m (a) _ ⟨_, _, HB.out⟩).mono ?_; rintro _ w2 ⟨rfl, hm2, hr2⟩
  go_wp2
  go_ret
  exact ⟨rfl, hm2, HR1.out.trans hr2⟩
 by_cases h4 : o = 4
 ·subst h4
  clear hb
  go_enter Tryz.func190, Tryz.ntmps190
  go_wp2_with fail
  rw [← hW1.out]
  refine (CS.out m (m.reg) _ ⟨_, _, HB.out⟩).mono ?_; rintro _ w2 ⟨rfl, hm2, hr2⟩
  go_wp2
  go_ret
  exact ⟨rfl, hm2, HR1.out.trans hr2⟩
 by_cases h2 : o = 2
 ·subst h2
  clear hb
  go_enter Tryz.func190, Tryz.ntmps190
  go_wp2_with fail
  rw [← hW1.out]
  refine (CS.out m (1) _ ⟨_, _, HB.out⟩).mono ?_; rintro _ w2 ⟨rfl, hm2, hr2⟩
  go_wp2
  go_ret
  exact ⟨rfl, hm2, HR1.out.trans hr2⟩
 by_cases h13 : o = 13
 ·subst h13
  clear hb
  go_enter Tryz.func190, Tryz.ntmps190
  go_wp2_with fail
  rw [← hW1.out]
  refine (CS.out m (1) _ ⟨_, _, HB.out⟩).mono ?_; rintro _ w2 ⟨rfl, hm2, hr2⟩
  go_wp2
  go_ret
  exact ⟨rfl, hm2, HR1.out.trans hr2⟩
 by_cases h16 : o = 16
 ·subst h16
  clear hb
  go_enter Tryz.func190, Tryz.ntmps190
  go_wp2_with fail
  rw [← hW1.out]
  refine (CS.out m (1) _ ⟨_, _, HB.out⟩).mono ?_; rintro _ w2 ⟨rfl, hm2, hr2⟩
  go_wp2
  go_ret
  exact ⟨rfl, hm2, HR1.out.trans hr2⟩
 by_cases h15 : o = 15
 ·subst h15
  obtain ⟨A, c, hvq, _⟩ : ∃ A c, vq = .slice A m.sums.length c ∧ True := by
   rcases hb.oq.2 with ⟨h1, h2⟩ | ⟨g, cap, cur, h1, _⟩
   ·exact ⟨none, 0, by rw [h1, h2], trivial⟩
   ·exact ⟨_, _, h1, trivial⟩
  subst hvq
  have r3 : W1.cell? ⟨p, 3, none⟩ = some (Value.slice A m.sums.length c) := HB.out.box.cell 3
  rw [hW1.out] at r3
  by_cases h0 : m.sums.length = 0
  ·have HM : Hid (m.reads (15, a, z) = (m.fail 8, true)) := by show _ = _; unfold Mach.reads; simp [h0]
   rw [HM.out]
   have h0b : ((m.sums.length : Int) == 0) = true := by rw [h0]; rfl
   clear hb
   go_enter Tryz.func190, Tryz.ntmps190
   go_wp2_with fail
   rw [← hW1.out]
   refine (CF.out _ ⟨_, _, HB.out⟩).mono ?_; rintro _ w2 ⟨rfl, hm2, hr2⟩
   go_wp2
   go_ret
   exact ⟨rfl, hm2, HR1.out.trans hr2⟩
  ·have HM : Hid (m.reads (15, a, z) = (m.start 1, true)) := by show _ = _; unfold Mach.reads; simp only []; rw [if_neg h0]; rfl
   rw [HM.out]
   have h0b : ((m.sums.length : Int) == 0) = false := by rw [beq_eq_false_iff_ne]; omega
   clear hb
   go_enter Tryz.func190, Tryz.ntmps190
   go_wp2_with fail
   rw [← hW1.out]
   refine (CS.out m 1 _ ⟨_, _, HB.out⟩).mono ?_; rintro _ w2 ⟨rfl, hm2, hr2⟩
   go_wp2
   go_ret
   exact ⟨rfl, hm2, HR1.out.trans hr2⟩
 have HM : Hid (m.reads (o, a, z) = (m, false)) := by show _ = _; unfold Mach.reads; rw [if_neg h1, if_neg h3, if_neg h4, if_neg h2, if_neg h13, if_neg h16, if_neg h15]
 rw [HM.out]
 have n1 : (o == 1) = false := by simp [h1]
 have n3 : (o == 3) = false := by simp [h3]
 have n4 : (o == 4) = false := by simp [h4]
 have n2 : (o == 2) = false := by simp [h2]
 have n13 : (o == 13) = false := by simp [h13]
 have n16 : (o == 16) = false := by simp [h16]
 have n15 : (o == 15) = false := by simp [h15]
 clear hb
 go_enter Tryz.func190, Tryz.ntmps190
 go_wp2
 rw [← hW1.out]
 go_ret
 exact ⟨rfl, ⟨_, _, HB.out⟩, HR1.out⟩
theorem OwnL.len_shape {w0 w : World} {v : Value} {l : List Int} (h : OwnL vint 3 w0 w v l) : ∃ A c, v = .slice A l.length c := by
 rcases h.2 with ⟨h1, h2⟩ | ⟨g, cap, cur, h1, _⟩
 ·exact ⟨none, 0, by rw [h1, h2]⟩
 ·exact ⟨_, _, h1⟩
theorem sMoves_c (X : Nat → Prop) (W0 : World) (p : Nat) (m : Mach) (x : Ins) (w : World) (h : MV X W0 w p m) (hs : m.stack.length ≤ 60) (hq : m.sums.length ≤ 30) :
 Calls Tryz.prog 191 #[.pointer (some ⟨p, 0, none⟩), .agg #[.int .i64 x.1, .int .i64 x.2.1, .int .i64 x.2.2]] w fun e w' => e = .returned (.tuple #[]) ∧ MV X W0 w' p (m.moves x) ∧ MR X w w' := by
 obtain ⟨vs, vq, hb⟩ := h
 obtain ⟨W1, hW1⟩ : ∃ W, Hid (W = w.alloc (.cells #[.int .i64 x.1, .int .i64 x.2.1, .int .i64 x.2.2] 79)) := ⟨_, rfl⟩
 have e1 : Ext w W1 := ka hW1
 have HB : Hid (MB (fun k => X k ∨ k = w.heap.size) W0 W1 p m vs vq) := by rw [hW1.out]; exact hb.guard _
 have HR1 : Hid (MR X w W1) := MR.of_ext e1 hb.low
 have CP := Lib.hid (fun (n : Int) w h => sPush_c (fun k => X k ∨ k = w.heap.size) W0 p m n w h hs)
 have CPU := Lib.hid (fun (n : Int) => sPush_c (fun k => X k ∨ k = w.heap.size) W0 p m n W1 ⟨_, _, HB.out⟩ hs)
 have CLO := Lib.hid (fun (n : Int) => sLoopM_c (fun k => X k ∨ k = w.heap.size) W0 p m n W1 ⟨_, _, HB.out⟩ hs)
 have CPO := Lib.hid (sPop_c (fun k => X k ∨ k = w.heap.size) W0 p m W1 ⟨_, _, HB.out⟩ hs)
 have CFA := Lib.hid (sFail_c (fun k => X k ∨ k = w.heap.size) W0 p m 8 W1 ⟨_, _, HB.out⟩)
 have HXW : Hid (∀ k, X k → X k ∨ k = w.heap.size) := fun k hk => .inl hk
 have hpl : p < w.heap.size := hb.box.lt
 have hne : p ≠ w.heap.size := by omega
 have hne' : w.heap.size ≠ p := by omega
 have hbi : Box W1 w.heap.size #[.int .i64 x.1, .int .i64 x.2.1, .int .i64 x.2.2] 79 := kb hW1
 have i0 : W1.cell? ⟨w.heap.size, 0, none⟩ = some (.int .i64 x.1) := hbi.cell 0
 have i1 : W1.cell? ⟨w.heap.size, 1, none⟩ = some (.int .i64 x.2.1) := hbi.cell 1
 have HI1 := Lib.hid i1
 have r0 : W1.cell? ⟨p, 0, none⟩ = some (.int .i64 m.pc) := HB.out.box.cell 0
 have r1 : W1.cell? ⟨p, 1, none⟩ = some (.int .i64 m.reg) := HB.out.box.cell 1
 have f0 := HB.out.box.free 0
 rw [hW1.out] at i0 i1 r0 r1 f0
 obtain ⟨o, a, z⟩ := x
 dsimp only at *
 clear e1 hbi CP
 by_cases h6 : o = 6
 ·subst h6
  by_cases hl : m.stack.length < 60
  ·have HM : Hid (m.moves (6, a, z) = { m.push (m.reg) with pc := wrap64 ((m.push m.reg).pc + 1) }) := by show _ = _; unfold Mach.moves; simp [hl]
   have hd : decide (m.stack.length < 60) = true := decide_eq_true hl
   have CPU1 := Lib.hid (CPU.out (m.reg))
   rw [hd] at CPU1
   rw [HM.out]
   clear hb hd CPU
   generalize m.push (m.reg) = q at *
   go_enter Tryz.func191, Tryz.ntmps191
   go_wp2_with fail
   rw [← hW1.out]
   refine CPU1.out.mono ?_; rintro _ w2 ⟨rfl, ⟨vs2, vq2, hm⟩, hr2⟩
   have s0 : w2.cell? ⟨p, 0, none⟩ = some (.int .i64 q.pc) := hm.box.cell 0
   have s0f := hm.box.free 0
   have si : w2.cell? ⟨w.heap.size, 1, none⟩ = some (.int .i64 a) := (hr2.cell (.inr rfl) 1).trans HI1.out
   have hm' := hm.put (m' := { q with pc := wrap64 (q.pc + 1) }) 0 (.int .i64 (wrap64 (q.pc + 1))) rfl rfl rfl
   have hr3 : MR (fun k => X k ∨ k = w.heap.size) w2 (w2.setCell ⟨p, 0, none⟩ (.int .i64 (wrap64 (q.pc + 1)))) := MR.set _ hm.xp
   have HME := Lib.hid (show MV X W0 (w2.setCell ⟨p, 0, none⟩ (.int .i64 (wrap64 (q.pc + 1)))) p { q with pc := wrap64 (q.pc + 1) } from ⟨_, _, hm'.weak HXW.out⟩)
   have HRE := Lib.hid (HR1.out.trans ((hr2.trans hr3).weak HXW.out))
   clear hm hm' hr2 hr3
   go_wp2
   first
    | exact bodyPost_end (results_none rfl _ _ _) rfl ⟨rfl, HME.out, HRE.out⟩
    | exact bodyPost_ret (results_none rfl _ _ _) rfl ⟨rfl, HME.out, HRE.out⟩
  ·have HM : Hid (m.moves (6, a, z) = m.push (m.reg)) := by show _ = _; unfold Mach.moves; simp [hl]
   have hd : decide (m.stack.length < 60) = false := decide_eq_false hl
   have CPU1 := Lib.hid (CPU.out (m.reg))
   rw [hd] at CPU1
   rw [HM.out]
   clear hb hd CPU
   go_enter Tryz.func191, Tryz.ntmps191
   go_wp2_with fail
   rw [← hW1.out]
   refine CPU1.out.mono ?_; rintro _ w2 ⟨rfl, ⟨vs2, vq2, hm⟩, hr2⟩
   go_wp2
   first
    | exact bodyPost_end (results_none rfl _ _ _) rfl ⟨rfl, ⟨_, _, hm.weak HXW.out⟩, HR1.out.trans (hr2.weak HXW.out)⟩
    | exact bodyPost_ret (results_none rfl _ _ _) rfl ⟨rfl, ⟨_, _, hm.weak HXW.out⟩, HR1.out.trans (hr2.weak HXW.out)⟩
 by_cases h7 : o = 7
 ·subst h7
  have HM : Hid (m.moves (7, a, z) = m.loop a) := rfl
  rw [HM.out]
  clear hb
  go_enter Tryz.func191, Tryz.ntmps191
  go_wp2_with fail
  rw [← hW1.out]
  refine (CLO.out a).mono ?_; rintro _ w2 ⟨rfl, ⟨vs2, vq2, hm⟩, hr2⟩
  go_wp2
  first
   | exact bodyPost_end (results_none rfl _ _ _) rfl ⟨rfl, ⟨_, _, hm.weak HXW.out⟩, HR1.out.trans (hr2.weak HXW.out)⟩
   | exact bodyPost_ret (results_none rfl _ _ _) rfl ⟨rfl, ⟨_, _, hm.weak HXW.out⟩, HR1.out.trans (hr2.weak HXW.out)⟩
 by_cases h8 : o = 8
 ·subst h8
  have HM : Hid (m.moves (8, a, z) = { m with pc := a }) := rfl
  rw [HM.out]
  have H2 := Lib.hid ((hb.put (m' := { m with pc := a }) 0 (.int .i64 a) rfl rfl rfl).next (Ext_alloc (.cells #[.int .i64 8, .int .i64 a, .int .i64 z] 79) (Ext.refl _)))
  have H3 := Lib.hid ((MR.set (i := 0) (Value.int .i64 a) hb.xp).trans (MR.alloc (.cells #[.int .i64 8, .int .i64 a, .int .i64 z] 79) (fun k hk => by simpa using hb.low k hk)))
  clear hb
  go_enter Tryz.func191, Tryz.ntmps191
  go_wp2
  first
   | exact bodyPost_end (results_none rfl _ _ _) rfl ⟨rfl, ⟨_, _, H2.out⟩, H3.out⟩
   | exact bodyPost_ret (results_none rfl _ _ _) rfl ⟨rfl, ⟨_, _, H2.out⟩, H3.out⟩
 by_cases h9 : o = 9
 ·subst h9
  by_cases hl : m.stack.length < 60
  ·have HM : Hid (m.moves (9, a, z) = { m.push (wrap64 (m.pc + 1)) with pc := a }) := by show _ = _; unfold Mach.moves; simp [hl]
   have hd : decide (m.stack.length < 60) = true := decide_eq_true hl
   have CPU1 := Lib.hid (CPU.out (wrap64 (m.pc + 1)))
   rw [hd] at CPU1
   rw [HM.out]
   clear hb hd CPU
   generalize m.push (wrap64 (m.pc + 1)) = q at *
   go_enter Tryz.func191, Tryz.ntmps191
   go_wp2_with fail
   rw [← hW1.out]
   refine CPU1.out.mono ?_; rintro _ w2 ⟨rfl, ⟨vs2, vq2, hm⟩, hr2⟩
   have s0 : w2.cell? ⟨p, 0, none⟩ = some (.int .i64 q.pc) := hm.box.cell 0
   have s0f := hm.box.free 0
   have si : w2.cell? ⟨w.heap.size, 1, none⟩ = some (.int .i64 a) := (hr2.cell (.inr rfl) 1).trans HI1.out
   have hm' := hm.put (m' := { q with pc := a }) 0 (.int .i64 (a)) rfl rfl rfl
   have hr3 : MR (fun k => X k ∨ k = w.heap.size) w2 (w2.setCell ⟨p, 0, none⟩ (.int .i64 (a))) := MR.set _ hm.xp
   have HME := Lib.hid (show MV X W0 (w2.setCell ⟨p, 0, none⟩ (.int .i64 (a))) p { q with pc := a } from ⟨_, _, hm'.weak HXW.out⟩)
   have HRE := Lib.hid (HR1.out.trans ((hr2.trans hr3).weak HXW.out))
   clear hm hm' hr2 hr3
   go_wp2
   first
    | exact bodyPost_end (results_none rfl _ _ _) rfl ⟨rfl, HME.out, HRE.out⟩
    | exact bodyPost_ret (results_none rfl _ _ _) rfl ⟨rfl, HME.out, HRE.out⟩
  ·have HM : Hid (m.moves (9, a, z) = m.push (wrap64 (m.pc + 1))) := by show _ = _; unfold Mach.moves; simp [hl]
   have hd : decide (m.stack.length < 60) = false := decide_eq_false hl
   have CPU1 := Lib.hid (CPU.out (wrap64 (m.pc + 1)))
   rw [hd] at CPU1
   rw [HM.out]
   clear hb hd CPU
   go_enter Tryz.func191, Tryz.ntmps191
   go_wp2_with fail
   rw [← hW1.out]
   refine CPU1.out.mono ?_; rintro _ w2 ⟨rfl, ⟨vs2, vq2, hm⟩, hr2⟩
   go_wp2
   first
    | exact bodyPost_end (results_none rfl _ _ _) rfl ⟨rfl, ⟨_, _, hm.weak HXW.out⟩, HR1.out.trans (hr2.weak HXW.out)⟩
    | exact bodyPost_ret (results_none rfl _ _ _) rfl ⟨rfl, ⟨_, _, hm.weak HXW.out⟩, HR1.out.trans (hr2.weak HXW.out)⟩
 by_cases h10 : o = 10
 ·subst h10
  by_cases hl : 0 < m.stack.length
  ·have HM : Hid (m.moves (10, a, z) = { m.pop with pc := m.stack.getLastD 0 }) := by show _ = _; unfold Mach.moves Mach.last; simp [hl]
   have hd : decide (0 < m.stack.length) = true := decide_eq_true hl
   rw [hd] at CPO
   rw [HM.out]
   clear hb hd
   generalize m.pop = q at *
   generalize m.stack.getLastD 0 = y at *
   go_enter Tryz.func191, Tryz.ntmps191
   go_wp2_with fail
   rw [← hW1.out]
   refine CPO.out.mono ?_; rintro _ w2 ⟨rfl, ⟨vs2, vq2, hm⟩, hr2⟩
   have s0 : w2.cell? ⟨p, 0, none⟩ = some (.int .i64 q.pc) := hm.box.cell 0
   have s0f := hm.box.free 0
   have hm' := hm.put (m' := { q with pc := y }) 0 (.int .i64 y) rfl rfl rfl
   have hr3 : MR (fun k => X k ∨ k = w.heap.size) w2 (w2.setCell ⟨p, 0, none⟩ (.int .i64 y)) := MR.set _ hm.xp
   have HME := Lib.hid (show MV X W0 (w2.setCell ⟨p, 0, none⟩ (.int .i64 y)) p { q with pc := y } from ⟨_, _, hm'.weak HXW.out⟩)
   have HRE := Lib.hid (HR1.out.trans ((hr2.trans hr3).weak HXW.out))
   clear hm hm' hr2 hr3
   go_wp2
   first
    | exact bodyPost_end (results_none rfl _ _ _) rfl ⟨rfl, HME.out, HRE.out⟩
    | exact bodyPost_ret (results_none rfl _ _ _) rfl ⟨rfl, HME.out, HRE.out⟩
  ·have HM : Hid (m.moves (10, a, z) = m.pop) := by show _ = _; unfold Mach.moves; simp [hl]
   have hd : decide (0 < m.stack.length) = false := decide_eq_false hl
   rw [hd] at CPO
   rw [HM.out]
   clear hb hd
   go_enter Tryz.func191, Tryz.ntmps191
   go_wp2_with fail
   rw [← hW1.out]
   refine CPO.out.mono ?_; rintro _ w2 ⟨rfl, ⟨vs2, vq2, hm⟩, hr2⟩
   go_wp2
   first
    | exact bodyPost_end (results_none rfl _ _ _) rfl ⟨rfl, ⟨_, _, hm.weak HXW.out⟩, HR1.out.trans (hr2.weak HXW.out)⟩
    | exact bodyPost_ret (results_none rfl _ _ _) rfl ⟨rfl, ⟨_, _, hm.weak HXW.out⟩, HR1.out.trans (hr2.weak HXW.out)⟩
 by_cases h14 : o = 14
 ·subst h14
  obtain ⟨A, c, hvq⟩ := OwnL.len_shape hb.oq
  subst hvq
  have r3 : W1.cell? ⟨p, 3, none⟩ = some (Value.slice A m.sums.length c) := HB.out.box.cell 3
  have r3' := r3
  rw [hW1.out] at r3
  by_cases h0 : 30 ≤ m.sums.length
  ·have HM : Hid (m.moves (14, a, z) = m.fail 8) := by show _ = _; unfold Mach.moves; simp [h0]
   rw [HM.out]
   have h0i : (30 : Int) ≤ (m.sums.length : Int) := by omega
   clear hb
   go_enter Tryz.func191, Tryz.ntmps191
   go_wp2_with fail
   rw [← hW1.out]
   refine CFA.out.mono ?_; rintro _ w2 ⟨rfl, ⟨vs2, vq2, hm⟩, hr2⟩
   go_wp2
   first
    | exact bodyPost_end (results_none rfl _ _ _) rfl ⟨rfl, ⟨_, _, hm.weak HXW.out⟩, HR1.out.trans (hr2.weak HXW.out)⟩
    | exact bodyPost_ret (results_none rfl _ _ _) rfl ⟨rfl, ⟨_, _, hm.weak HXW.out⟩, HR1.out.trans (hr2.weak HXW.out)⟩
  ·have HM : Hid (m.moves (14, a, z) = { m with sums := m.sums ++ [0], pc := wrap64 (m.pc + 1) }) := by show _ = _; unfold Mach.moves; simp [h0]
   rw [HM.out]
   have h0i : ¬ (30 : Int) ≤ (m.sums.length : Int) := by omega
   have HB1 := Lib.hid (HB.out.next (Ext_alloc (.cells #[.int .i64 0] 3) (Ext.refl W1)))
   have HM1 := Lib.hid (MR.alloc (X := fun k => X k ∨ k = w.heap.size) (w := W1) (.cells #[.int .i64 0] 3) HB.out.low)
   have HBD : Hid ((m.sums.length + [(0 : Int)].length) * 8 ≤ 140737488355328) := by show _ ≤ _; simp; omega
   clear hb
   go_enter Tryz.func191, Tryz.ntmps191
   go_wp2_with (first
    | (at_builtin; rw [← hW1.out]; go_must (refine wpList_appNB rfl (.tmp 77) (.tmp 78) _ rfl E_int (by omega) W0 _ vint (fun _ => rfl) _ rfl _ _ _ rfl (by rw [hW1.out]; simp) m.sums [(0 : Int)] _ rfl HB.out.oq HB.out.ext rfl HBD.out ?_); intro v3 w3 ho3 he3 hv3 hg3; obtain ⟨A3, n3, c3, hv3'⟩ := Own.slice2 ho3; subst hv3'; have q2 : w3.cell? ⟨p, 3, none⟩ = some (Value.slice A m.sums.length c) := (HB1.out.box.moved hg3 HB1.out.n2).cell 3; have q2f := (HB1.out.box.moved hg3 HB1.out.n2).free 3; have q0 : w3.cell? ⟨p, 0, none⟩ = some (.int .i64 m.pc) := (HB1.out.box.moved hg3 HB1.out.n2).cell 0; have q0f := (HB1.out.box.moved hg3 HB1.out.n2).free 0))
   have HB4 := HB1.out.putQ (m' := { m with sums := m.sums ++ [0] }) ho3 he3 hv3 hg3 rfl rfl
   have HB5 := HB4.put (m' := { m with sums := m.sums ++ [0], pc := wrap64 (m.pc + 1) }) 0 (.int .i64 (wrap64 (m.pc + 1))) rfl rfl rfl
   have HRE := HR1.out.trans ((HM1.out.trans ((MR.grown hg3 (fun b hb => HB1.out.xq b hb) HB1.out.low).trans ((MR.set (i := 3) (Value.slice A3 n3 c3) HB.out.xp).trans (MR.set (i := 0) (Value.int .i64 (wrap64 (m.pc + 1))) HB.out.xp)))).weak HXW.out)
   first
    | exact bodyPost_end (results_none rfl _ _ _) rfl ⟨rfl, ⟨_, _, HB5.weak HXW.out⟩, HRE⟩
    | exact bodyPost_ret (results_none rfl _ _ _) rfl ⟨rfl, ⟨_, _, HB5.weak HXW.out⟩, HRE⟩
 have HM : Hid (m.moves (o, a, z) = m) := by show _ = _; unfold Mach.moves; rw [if_neg h6, if_neg h7, if_neg h8, if_neg h9, if_neg h10, if_neg h14]
 rw [HM.out]
 have n6 : (o == 6) = false := by simp [h6]
 have n7 : (o == 7) = false := by simp [h7]
 have n8 : (o == 8) = false := by simp [h8]
 have n9 : (o == 9) = false := by simp [h9]
 have n10 : (o == 10) = false := by simp [h10]
 have n14 : (o == 14) = false := by simp [h14]
 clear hb
 go_enter Tryz.func191, Tryz.ntmps191
 go_wp2
 rw [← hW1.out]
 first
  | exact bodyPost_end (results_none rfl _ _ _) rfl ⟨rfl, ⟨_, _, HB.out.weak HXW.out⟩, HR1.out⟩
  | exact bodyPost_ret (results_none rfl _ _ _) rfl ⟨rfl, ⟨_, _, HB.out.weak HXW.out⟩, HR1.out⟩
end Go.Proofs.YtpmcofmdjckijaaGreat
namespace Go.Proofs.YtpmcofmdjckijaaGreat
open Go.RowKit
theorem Mach.reads_no {m : Mach} {x : Ins} (h : (m.reads x).2 = false) : (m.reads x).1 = m := by
 unfold Mach.reads at h ⊢
 by_cases h1 : x.1 = 1
 ·exfalso
  rw [if_pos h1] at h; cases h
 by_cases h3 : x.1 = 3
 ·exfalso
  rw [if_neg h1, if_pos h3] at h; cases h
 by_cases h4 : x.1 = 4
 ·exfalso
  rw [if_neg h1, if_neg h3, if_pos h4] at h; cases h
 by_cases h2 : x.1 = 2
 ·exfalso
  rw [if_neg h1, if_neg h3, if_neg h4, if_pos h2] at h; cases h
 by_cases h13 : x.1 = 13
 ·exfalso
  rw [if_neg h1, if_neg h3, if_neg h4, if_neg h2, if_pos h13] at h; cases h
 by_cases h16 : x.1 = 16
 ·exfalso
  rw [if_neg h1, if_neg h3, if_neg h4, if_neg h2, if_neg h13, if_pos h16] at h; cases h
 by_cases h15 : x.1 = 15
 ·exfalso
  rw [if_neg h1, if_neg h3, if_neg h4, if_neg h2, if_neg h13, if_neg h16, if_pos h15] at h; cases h
 rw [if_neg h1, if_neg h3, if_neg h4, if_neg h2, if_neg h13, if_neg h16, if_neg h15]
def Mach.step (m : Mach) (x : Ins) : Mach :=
 if (m.reads x).2 then (m.reads x).1
 else if x.1 = 17 then { m with state := 1 }
 else if x.1 = 12 then m.fail x.2.1
 else if x.1 = 5 then (if x.2.1 < m.reg then m.fail 6 else { m with pc := wrap64 (m.pc + 1) })
 else if x.1 = 11 then (if m.reg = x.2.1 then { m with pc := x.2.2 } else { m with pc := wrap64 (m.pc + 1) })
 else m.moves x
end Go.Proofs.YtpmcofmdjckijaaGreat
namespace Go.Proofs.YtpmcofmdjckijaaGreat
open Go.RowKit Go.Sort
theorem sStep_c (X : Nat → Prop) (W0 : World) (p : Nat) (m : Mach) (x : Ins) (w : World) (h : MV X W0 w p m) (hs : m.stack.length ≤ 60) (hq : m.sums.length ≤ 30) :
 Calls Tryz.prog 163 #[.pointer (some ⟨p, 0, none⟩), .agg #[.int .i64 x.1, .int .i64 x.2.1, .int .i64 x.2.2]] w fun e w' => e = .returned (.tuple #[]) ∧ MV X W0 w' p (m.step x) ∧ MR X w w' := by
 obtain ⟨vs, vq, hb⟩ := h
 obtain ⟨W1, hW1⟩ : ∃ W, Hid (W = w.alloc (.cells #[.int .i64 x.1, .int .i64 x.2.1, .int .i64 x.2.2] 79)) := ⟨_, rfl⟩
 have e1 : Ext w W1 := ka hW1
 have HB : Hid (MB (fun k => X k ∨ k = w.heap.size) W0 W1 p m vs vq) := by rw [hW1.out]; exact hb.guard _
 have HR1 : Hid (MR X w W1) := MR.of_ext e1 hb.low
 have CR := Lib.hid (sReads_c (fun k => X k ∨ k = w.heap.size) W0 p m x W1 ⟨_, _, HB.out⟩)
 have CF := Lib.hid (fun (c : Int) w' h => sFail_c (fun k => X k ∨ k = w.heap.size) W0 p m c w' h)
 have CM := Lib.hid (fun w' h => sMoves_c (fun k => X k ∨ k = w.heap.size) W0 p m x w' h hs hq)
 have HXW : Hid (∀ k, X k → X k ∨ k = w.heap.size) := fun k hk => .inl hk
 have hbi : Box W1 w.heap.size #[.int .i64 x.1, .int .i64 x.2.1, .int .i64 x.2.2] 79 := kb hW1
 have HBI := Lib.hid hbi
 have i0 : W1.cell? ⟨w.heap.size, 0, none⟩ = some (.int .i64 x.1) := hbi.cell 0
 have i1 : W1.cell? ⟨w.heap.size, 1, none⟩ = some (.int .i64 x.2.1) := hbi.cell 1
 have i2 : W1.cell? ⟨w.heap.size, 2, none⟩ = some (.int .i64 x.2.2) := hbi.cell 2
 rw [hW1.out] at i0 i1 i2
 cases hz : (m.reads x).2
 rotate_left
 ·have HM : Hid (m.step x = (m.reads x).1) := by show _ = _; unfold Mach.step; rw [if_pos hz]
  rw [hz] at CR
  rw [HM.out]
  generalize (m.reads x).1 = q at *
  clear hb hbi hz e1
  go_enter Tryz.func163, Tryz.ntmps163
  go_wp2_with fail
  rw [← hW1.out]
  refine CR.out.mono ?_; rintro _ w2 ⟨rfl, ⟨vs2, vq2, hm⟩, hr2⟩
  go_wp2
  first
   | exact bodyPost_end (results_none rfl _ _ _) rfl ⟨rfl, ⟨_, _, hm.weak HXW.out⟩, HR1.out.trans (hr2.weak HXW.out)⟩
   | exact bodyPost_ret (results_none rfl _ _ _) rfl ⟨rfl, ⟨_, _, hm.weak HXW.out⟩, HR1.out.trans (hr2.weak HXW.out)⟩
 have hsame := Mach.reads_no hz
 rw [hz, hsame] at CR
 have HST : Hid (m.step x = if x.1 = 17 then { m with state := 1 } else if x.1 = 12 then m.fail x.2.1 else if x.1 = 5 then (if x.2.1 < m.reg then m.fail 6 else { m with pc := wrap64 (m.pc + 1) }) else if x.1 = 11 then (if m.reg = x.2.1 then { m with pc := x.2.2 } else { m with pc := wrap64 (m.pc + 1) }) else m.moves x) := by
  show _ = _
  rw [Mach.step, if_neg (by rw [hz]; simp)]
 obtain ⟨o, a, z⟩ := x
 dsimp only at *
 clear hz hsame hbi e1 hb
 by_cases h17 : o = 17
 ·subst h17
  have HM : Hid (m.step (17, a, z) = { m with state := 1 }) := by show _ = _; rw [HST.out]; rfl
  rw [HM.out]
  go_enter Tryz.func163, Tryz.ntmps163
  go_wp2_with fail
  rw [← hW1.out]
  refine CR.out.mono ?_; rintro _ w2 ⟨rfl, ⟨vs2, vq2, hm⟩, hr2⟩
  have hbi2 : Box w2 w.heap.size #[.int .i64 17, .int .i64 a, .int .i64 z] 79 := (hr2.kept _ (.inr rfl)).trans HBI.out
  have j0 : ∀ w', Ext w2 w' → w'.cell? ⟨w.heap.size, 0, none⟩ = some (.int .i64 17) := fun w' e => hbi2.at 0 w' e
  have j1 : ∀ w', Ext w2 w' → w'.cell? ⟨w.heap.size, 1, none⟩ = some (.int .i64 a) := fun w' e => hbi2.at 1 w' e
  have j2 : ∀ w', Ext w2 w' → w'.cell? ⟨w.heap.size, 2, none⟩ = some (.int .i64 z) := fun w' e => hbi2.at 2 w' e
  have s0 : ∀ w', Ext w2 w' → w'.cell? ⟨p, 0, none⟩ = some (.int .i64 m.pc) := fun w' e => (hm.box.ext e).cell 0
  have s1 : ∀ w', Ext w2 w' → w'.cell? ⟨p, 1, none⟩ = some (.int .i64 m.reg) := fun w' e => (hm.box.ext e).cell 1
  have s7 : ∀ w', Ext w2 w' → w'.cell? ⟨p, 7, none⟩ = some (.int .i64 m.state) := fun w' e => (hm.box.ext e).cell 7
  have f0 := hm.box.free 0; have f7 := hm.box.free 7
  have HR2 := Lib.hid (HR1.out.trans (hr2.weak HXW.out))
  have HM2 := Lib.hid hm
  clear hm hr2 hbi2 i0 i1 i2
  have HB3 := Lib.hid ((HM2.out.put (m' := { m with state := 1 }) 7 (.int .i64 1) rfl rfl rfl).weak HXW.out)
  have HR3 := Lib.hid (HR2.out.trans (MR.set (i := 7) (Value.int .i64 1) HB3.out.xp))
  go_wp2
  first
   | exact bodyPost_end (results_none rfl _ _ _) rfl ⟨rfl, ⟨_, _, HB3.out⟩, HR3.out⟩
   | exact bodyPost_ret (results_none rfl _ _ _) rfl ⟨rfl, ⟨_, _, HB3.out⟩, HR3.out⟩
 by_cases h12 : o = 12
 ·subst h12
  have HM : Hid (m.step (12, a, z) = m.fail a) := by show _ = _; rw [HST.out]; rfl
  rw [HM.out]
  go_enter Tryz.func163, Tryz.ntmps163
  go_wp2_with fail
  rw [← hW1.out]
  refine CR.out.mono ?_; rintro _ w2 ⟨rfl, ⟨vs2, vq2, hm⟩, hr2⟩
  have hbi2 : Box w2 w.heap.size #[.int .i64 12, .int .i64 a, .int .i64 z] 79 := (hr2.kept _ (.inr rfl)).trans HBI.out
  have j0 : ∀ w', Ext w2 w' → w'.cell? ⟨w.heap.size, 0, none⟩ = some (.int .i64 12) := fun w' e => hbi2.at 0 w' e
  have j1 : ∀ w', Ext w2 w' → w'.cell? ⟨w.heap.size, 1, none⟩ = some (.int .i64 a) := fun w' e => hbi2.at 1 w' e
  have j2 : ∀ w', Ext w2 w' → w'.cell? ⟨w.heap.size, 2, none⟩ = some (.int .i64 z) := fun w' e => hbi2.at 2 w' e
  have s0 : ∀ w', Ext w2 w' → w'.cell? ⟨p, 0, none⟩ = some (.int .i64 m.pc) := fun w' e => (hm.box.ext e).cell 0
  have s1 : ∀ w', Ext w2 w' → w'.cell? ⟨p, 1, none⟩ = some (.int .i64 m.reg) := fun w' e => (hm.box.ext e).cell 1
  have s7 : ∀ w', Ext w2 w' → w'.cell? ⟨p, 7, none⟩ = some (.int .i64 m.state) := fun w' e => (hm.box.ext e).cell 7
  have f0 := hm.box.free 0; have f7 := hm.box.free 7
  have HR2 := Lib.hid (HR1.out.trans (hr2.weak HXW.out))
  have HM2 := Lib.hid hm
  clear hm hr2 hbi2 i0 i1 i2
  go_wp2_with fail
  refine (CF.out a _ ⟨_, _, HM2.out⟩).mono ?_; rintro _ w3 ⟨rfl, ⟨vs3, vq3, hm3⟩, hr3⟩
  go_wp2
  first
   | exact bodyPost_end (results_none rfl _ _ _) rfl ⟨rfl, ⟨_, _, hm3.weak HXW.out⟩, HR2.out.trans (hr3.weak HXW.out)⟩
   | exact bodyPost_ret (results_none rfl _ _ _) rfl ⟨rfl, ⟨_, _, hm3.weak HXW.out⟩, HR2.out.trans (hr3.weak HXW.out)⟩
 by_cases h5 : o = 5
 ·subst h5
  by_cases hl : a < m.reg
  ·have hd : decide (a < m.reg) = true := decide_eq_true hl
   have HM : Hid (m.step (5, a, z) = m.fail 6) := by show _ = _; rw [HST.out]; simp [hl]
   rw [HM.out]
   go_enter Tryz.func163, Tryz.ntmps163
   go_wp2_with fail
   rw [← hW1.out]
   refine CR.out.mono ?_; rintro _ w2 ⟨rfl, ⟨vs2, vq2, hm⟩, hr2⟩
   have hbi2 : Box w2 w.heap.size #[.int .i64 5, .int .i64 a, .int .i64 z] 79 := (hr2.kept _ (.inr rfl)).trans HBI.out
   have j0 : ∀ w', Ext w2 w' → w'.cell? ⟨w.heap.size, 0, none⟩ = some (.int .i64 5) := fun w' e => hbi2.at 0 w' e
   have j1 : ∀ w', Ext w2 w' → w'.cell? ⟨w.heap.size, 1, none⟩ = some (.int .i64 a) := fun w' e => hbi2.at 1 w' e
   have j2 : ∀ w', Ext w2 w' → w'.cell? ⟨w.heap.size, 2, none⟩ = some (.int .i64 z) := fun w' e => hbi2.at 2 w' e
   have s0 : ∀ w', Ext w2 w' → w'.cell? ⟨p, 0, none⟩ = some (.int .i64 m.pc) := fun w' e => (hm.box.ext e).cell 0
   have s1 : ∀ w', Ext w2 w' → w'.cell? ⟨p, 1, none⟩ = some (.int .i64 m.reg) := fun w' e => (hm.box.ext e).cell 1
   have s7 : ∀ w', Ext w2 w' → w'.cell? ⟨p, 7, none⟩ = some (.int .i64 m.state) := fun w' e => (hm.box.ext e).cell 7
   have f0 := hm.box.free 0; have f7 := hm.box.free 7
   have HR2 := Lib.hid (HR1.out.trans (hr2.weak HXW.out))
   have HM2 := Lib.hid hm
   clear hm hr2 hbi2 i0 i1 i2
   go_wp2_with fail
   refine wp_region_quiet_below (by kernel_rfl) (by kernel_rfl) ?_
   repeat (go_big_quiet_step ((fail)))
   refine wpQuiet_nil ?_
   rintro w4 ⟨⟨nq, osq⟩, hq⟩
   have ew4 := ext_of_q hq
   clear hq nq osq
   go_wp2_with fail
   refine (CF.out 6 _ ⟨_, _, HM2.out.next ew4⟩).mono ?_; rintro _ w3 ⟨rfl, ⟨vs3, vq3, hm3⟩, hr3⟩
   have HRE := HR2.out.trans (((MR.of_ext ew4 HM2.out.low).trans hr3).weak HXW.out)
   go_wp2
   first
    | exact bodyPost_end (results_none rfl _ _ _) rfl ⟨rfl, ⟨_, _, hm3.weak HXW.out⟩, HRE⟩
    | exact bodyPost_ret (results_none rfl _ _ _) rfl ⟨rfl, ⟨_, _, hm3.weak HXW.out⟩, HRE⟩
  ·have hd : decide (a < m.reg) = false := decide_eq_false hl
   have HM : Hid (m.step (5, a, z) = { m with pc := wrap64 (m.pc + 1) }) := by show _ = _; rw [HST.out]; simp [hl]
   rw [HM.out]
   go_enter Tryz.func163, Tryz.ntmps163
   go_wp2_with fail
   rw [← hW1.out]
   refine CR.out.mono ?_; rintro _ w2 ⟨rfl, ⟨vs2, vq2, hm⟩, hr2⟩
   have hbi2 : Box w2 w.heap.size #[.int .i64 5, .int .i64 a, .int .i64 z] 79 := (hr2.kept _ (.inr rfl)).trans HBI.out
   have j0 : ∀ w', Ext w2 w' → w'.cell? ⟨w.heap.size, 0, none⟩ = some (.int .i64 5) := fun w' e => hbi2.at 0 w' e
   have j1 : ∀ w', Ext w2 w' → w'.cell? ⟨w.heap.size, 1, none⟩ = some (.int .i64 a) := fun w' e => hbi2.at 1 w' e
   have j2 : ∀ w', Ext w2 w' → w'.cell? ⟨w.heap.size, 2, none⟩ = some (.int .i64 z) := fun w' e => hbi2.at 2 w' e
   have s0 : ∀ w', Ext w2 w' → w'.cell? ⟨p, 0, none⟩ = some (.int .i64 m.pc) := fun w' e => (hm.box.ext e).cell 0
   have s1 : ∀ w', Ext w2 w' → w'.cell? ⟨p, 1, none⟩ = some (.int .i64 m.reg) := fun w' e => (hm.box.ext e).cell 1
   have s7 : ∀ w', Ext w2 w' → w'.cell? ⟨p, 7, none⟩ = some (.int .i64 m.state) := fun w' e => (hm.box.ext e).cell 7
   have f0 := hm.box.free 0; have f7 := hm.box.free 7
   have HR2 := Lib.hid (HR1.out.trans (hr2.weak HXW.out))
   have HM2 := Lib.hid hm
   clear hm hr2 hbi2 i0 i1 i2
   go_wp2_with fail
   refine wp_region_quiet_below (by kernel_rfl) (by kernel_rfl) ?_
   repeat (go_big_quiet_step ((fail)))
   refine wpQuiet_nil ?_
   rintro w4 ⟨⟨nq, osq⟩, hq⟩
   have ew4 := ext_of_q hq
   clear hq nq osq
   have HB5 := Lib.hid (HM2.out.next ew4)
   have HB6 := Lib.hid ((HB5.out.put (m' := { m with pc := wrap64 (m.pc + 1) }) 0 (.int .i64 (wrap64 (m.pc + 1))) rfl rfl rfl).weak HXW.out)
   have HR6 := Lib.hid (HR2.out.trans (((MR.of_ext ew4 HM2.out.low).weak HXW.out).trans (MR.set (i := 0) (Value.int .i64 (wrap64 (m.pc + 1))) HB6.out.xp)))
   have g0 := HB5.out.box.cell 0
   have g0' : w4.cell? ⟨p, 0, none⟩ = some (.int .i64 m.pc) := g0
   have g0f := HB5.out.box.free 0
   have ja := j2 w4 ew4
   clear g0
   go_wp2
   first
    | exact bodyPost_end (results_none rfl _ _ _) rfl ⟨rfl, ⟨_, _, HB6.out⟩, HR6.out⟩
    | exact bodyPost_ret (results_none rfl _ _ _) rfl ⟨rfl, ⟨_, _, HB6.out⟩, HR6.out⟩
 by_cases h11 : o = 11
 ·subst h11
  by_cases hl : m.reg = a
  ·have hd : (m.reg == a) = true := by simp [hl]
   have HM : Hid (m.step (11, a, z) = { m with pc := z }) := by show _ = _; rw [HST.out]; simp [hl]
   rw [HM.out]
   go_enter Tryz.func163, Tryz.ntmps163
   go_wp2_with fail
   rw [← hW1.out]
   refine CR.out.mono ?_; rintro _ w2 ⟨rfl, ⟨vs2, vq2, hm⟩, hr2⟩
   have hbi2 : Box w2 w.heap.size #[.int .i64 11, .int .i64 a, .int .i64 z] 79 := (hr2.kept _ (.inr rfl)).trans HBI.out
   have j0 : ∀ w', Ext w2 w' → w'.cell? ⟨w.heap.size, 0, none⟩ = some (.int .i64 11) := fun w' e => hbi2.at 0 w' e
   have j1 : ∀ w', Ext w2 w' → w'.cell? ⟨w.heap.size, 1, none⟩ = some (.int .i64 a) := fun w' e => hbi2.at 1 w' e
   have j2 : ∀ w', Ext w2 w' → w'.cell? ⟨w.heap.size, 2, none⟩ = some (.int .i64 z) := fun w' e => hbi2.at 2 w' e
   have s0 : ∀ w', Ext w2 w' → w'.cell? ⟨p, 0, none⟩ = some (.int .i64 m.pc) := fun w' e => (hm.box.ext e).cell 0
   have s1 : ∀ w', Ext w2 w' → w'.cell? ⟨p, 1, none⟩ = some (.int .i64 m.reg) := fun w' e => (hm.box.ext e).cell 1
   have s7 : ∀ w', Ext w2 w' → w'.cell? ⟨p, 7, none⟩ = some (.int .i64 m.state) := fun w' e => (hm.box.ext e).cell 7
   have f0 := hm.box.free 0; have f7 := hm.box.free 7
   have HR2 := Lib.hid (HR1.out.trans (hr2.weak HXW.out))
   have HM2 := Lib.hid hm
   clear hm hr2 hbi2 i0 i1 i2
   go_wp2_with fail
   refine wp_region_quiet_below (by kernel_rfl) (by kernel_rfl) ?_
   repeat (go_big_quiet_step ((fail)))
   refine wpQuiet_nil ?_
   rintro w4 ⟨⟨nq, osq⟩, hq⟩
   have ew4 := ext_of_q hq
   clear hq nq osq
   have HB5 := Lib.hid (HM2.out.next ew4)
   have HB6 := Lib.hid ((HB5.out.put (m' := { m with pc := z }) 0 (.int .i64 (z)) rfl rfl rfl).weak HXW.out)
   have HR6 := Lib.hid (HR2.out.trans (((MR.of_ext ew4 HM2.out.low).weak HXW.out).trans (MR.set (i := 0) (Value.int .i64 (z)) HB6.out.xp)))
   have g0 := HB5.out.box.cell 0
   have g0' : w4.cell? ⟨p, 0, none⟩ = some (.int .i64 m.pc) := g0
   have g0f := HB5.out.box.free 0
   have ja := j2 w4 ew4
   clear g0
   go_wp2
   first
    | exact bodyPost_end (results_none rfl _ _ _) rfl ⟨rfl, ⟨_, _, HB6.out⟩, HR6.out⟩
    | exact bodyPost_ret (results_none rfl _ _ _) rfl ⟨rfl, ⟨_, _, HB6.out⟩, HR6.out⟩
  ·have hd : (m.reg == a) = false := by simp [hl]
   have HM : Hid (m.step (11, a, z) = { m with pc := wrap64 (m.pc + 1) }) := by show _ = _; rw [HST.out]; simp [hl]
   rw [HM.out]
   go_enter Tryz.func163, Tryz.ntmps163
   go_wp2_with fail
   rw [← hW1.out]
   refine CR.out.mono ?_; rintro _ w2 ⟨rfl, ⟨vs2, vq2, hm⟩, hr2⟩
   have hbi2 : Box w2 w.heap.size #[.int .i64 11, .int .i64 a, .int .i64 z] 79 := (hr2.kept _ (.inr rfl)).trans HBI.out
   have j0 : ∀ w', Ext w2 w' → w'.cell? ⟨w.heap.size, 0, none⟩ = some (.int .i64 11) := fun w' e => hbi2.at 0 w' e
   have j1 : ∀ w', Ext w2 w' → w'.cell? ⟨w.heap.size, 1, none⟩ = some (.int .i64 a) := fun w' e => hbi2.at 1 w' e
   have j2 : ∀ w', Ext w2 w' → w'.cell? ⟨w.heap.size, 2, none⟩ = some (.int .i64 z) := fun w' e => hbi2.at 2 w' e
   have s0 : ∀ w', Ext w2 w' → w'.cell? ⟨p, 0, none⟩ = some (.int .i64 m.pc) := fun w' e => (hm.box.ext e).cell 0
   have s1 : ∀ w', Ext w2 w' → w'.cell? ⟨p, 1, none⟩ = some (.int .i64 m.reg) := fun w' e => (hm.box.ext e).cell 1
   have s7 : ∀ w', Ext w2 w' → w'.cell? ⟨p, 7, none⟩ = some (.int .i64 m.state) := fun w' e => (hm.box.ext e).cell 7
   have f0 := hm.box.free 0; have f7 := hm.box.free 7
   have HR2 := Lib.hid (HR1.out.trans (hr2.weak HXW.out))
   have HM2 := Lib.hid hm
   clear hm hr2 hbi2 i0 i1 i2
   go_wp2_with fail
   refine wp_region_quiet_below (by kernel_rfl) (by kernel_rfl) ?_
   repeat (go_big_quiet_step ((fail)))
   refine wpQuiet_nil ?_
   rintro w4 ⟨⟨nq, osq⟩, hq⟩
   have ew4 := ext_of_q hq
   clear hq nq osq
   have HB5 := Lib.hid (HM2.out.next ew4)
   have HB6 := Lib.hid ((HB5.out.put (m' := { m with pc := wrap64 (m.pc + 1) }) 0 (.int .i64 (wrap64 (m.pc + 1))) rfl rfl rfl).weak HXW.out)
   have HR6 := Lib.hid (HR2.out.trans (((MR.of_ext ew4 HM2.out.low).weak HXW.out).trans (MR.set (i := 0) (Value.int .i64 (wrap64 (m.pc + 1))) HB6.out.xp)))
   have g0 := HB5.out.box.cell 0
   have g0' : w4.cell? ⟨p, 0, none⟩ = some (.int .i64 m.pc) := g0
   have g0f := HB5.out.box.free 0
   have ja := j2 w4 ew4
   clear g0
   go_wp2
   first
    | exact bodyPost_end (results_none rfl _ _ _) rfl ⟨rfl, ⟨_, _, HB6.out⟩, HR6.out⟩
    | exact bodyPost_ret (results_none rfl _ _ _) rfl ⟨rfl, ⟨_, _, HB6.out⟩, HR6.out⟩
 have HM : Hid (m.step (o, a, z) = m.moves (o, a, z)) := by show _ = _; rw [HST.out, if_neg h17, if_neg h12, if_neg h5, if_neg h11]
 rw [HM.out]
 have n17 : (o == 17) = false := by simp [h17]
 have n12 : (o == 12) = false := by simp [h12]
 have n5 : (o == 5) = false := by simp [h5]
 have n11 : (o == 11) = false := by simp [h11]
 go_enter Tryz.func163, Tryz.ntmps163
 go_wp2_with fail
 rw [← hW1.out]
 refine CR.out.mono ?_; rintro _ w2 ⟨rfl, ⟨vs2, vq2, hm⟩, hr2⟩
 have hbi2 : Box w2 w.heap.size #[.int .i64 o, .int .i64 a, .int .i64 z] 79 := (hr2.kept _ (.inr rfl)).trans HBI.out
 have j0 : ∀ w', Ext w2 w' → w'.cell? ⟨w.heap.size, 0, none⟩ = some (.int .i64 o) := fun w' e => hbi2.at 0 w' e
 have j1 : ∀ w', Ext w2 w' → w'.cell? ⟨w.heap.size, 1, none⟩ = some (.int .i64 a) := fun w' e => hbi2.at 1 w' e
 have j2 : ∀ w', Ext w2 w' → w'.cell? ⟨w.heap.size, 2, none⟩ = some (.int .i64 z) := fun w' e => hbi2.at 2 w' e
 have s0 : ∀ w', Ext w2 w' → w'.cell? ⟨p, 0, none⟩ = some (.int .i64 m.pc) := fun w' e => (hm.box.ext e).cell 0
 have s1 : ∀ w', Ext w2 w' → w'.cell? ⟨p, 1, none⟩ = some (.int .i64 m.reg) := fun w' e => (hm.box.ext e).cell 1
 have s7 : ∀ w', Ext w2 w' → w'.cell? ⟨p, 7, none⟩ = some (.int .i64 m.state) := fun w' e => (hm.box.ext e).cell 7
 have f0 := hm.box.free 0; have f7 := hm.box.free 7
 have HR2 := Lib.hid (HR1.out.trans (hr2.weak HXW.out))
 have HM2 := Lib.hid hm
 clear hm hr2 hbi2 i0 i1 i2
 go_wp2_with fail
 refine (CM.out _ ⟨_, _, HM2.out⟩).mono ?_; rintro _ w3 ⟨rfl, ⟨vs3, vq3, hm3⟩, hr3⟩
 go_wp2
 first
  | exact bodyPost_end (results_none rfl _ _ _) rfl ⟨rfl, ⟨_, _, hm3.weak HXW.out⟩, HR2.out.trans (hr3.weak HXW.out)⟩
  | exact bodyPost_ret (results_none rfl _ _ _) rfl ⟨rfl, ⟨_, _, hm3.weak HXW.out⟩, HR2.out.trans (hr3.weak HXW.out)⟩
end Go.Proofs.YtpmcofmdjckijaaGreat
namespace Go.Proofs.YtpmcofmdjckijaaGreat
def insAt (cs : List Ins) (k : Int) : Ins := cs.getD k.toNat (0, 0, 0)
def inB (x lo hi : Int) : Bool := decide (lo ≤ x) && decide (x ≤ hi)
def isOp (cs : List Ins) (k op : Int) : Bool := inB k 0 ((cs.length : Int) - 1) && ((insAt cs k).1 == op)
def loopOk (cs : List Ins) (k : Int) : Bool := isOp cs (k - 1) 6 && isOp cs k 7 && isOp cs (k + 1) 9 && isOp cs (k + 2) 8 && ((insAt cs (k + 2)).2.1 == k) && ((insAt cs k).2.1 == k + 3)
def operOk (x : Ins) : Bool :=
 if x.1 = 1 then inB x.2.1 1 4 && inB x.2.2 0 1
 else if x.1 = 2 then inB x.2.1 0 255
 else if x.1 = 16 then inB x.2.1 0 255
 else if x.1 = 3 then inB x.2.1 0 400
 else if x.1 = 5 then inB x.2.1 0 400
 else if x.1 = 11 then decide (0 ≤ x.2.1)
 else if x.1 = 12 then inB x.2.1 1 8
 else inB x.1 1 17
def jumpOp (o : Int) : Bool := [7, 8, 9, 13].any (· == o)
def stopOp (o : Int) : Bool := [8, 10, 12, 17].any (· == o)
def insOk (cs : List Ins) (k : Int) : Bool :=
 inB k 0 ((cs.length : Int) - 1) &&
 !(jumpOp (insAt cs k).1 && !inB (insAt cs k).2.1 0 ((cs.length : Int) - 1)) &&
 !((insAt cs k).1 == 11 && !inB (insAt cs k).2.2 0 ((cs.length : Int) - 1)) &&
 !(!(stopOp (insAt cs k).1) && (k == (cs.length : Int) - 1)) &&
 operOk (insAt cs k)
def blockN (es : List Int) (x : Int) : Nat → Int
 | 0 => -1
 | k + 1 => if es.getD k 0 ≤ x then (k : Int) else blockN es x k
def blockOf (es : List Int) (x : Int) : Int := blockN es x es.length
def callOk (es : List Int) (a start : Int) : List Int → Bool
 | [] => false
 | e :: t => if e < start then (if e = a then true else callOk es a start t) else false
def innerOk (cs : List Ins) (es : List Int) (k start fin : Int) : Bool :=
 let x := insAt cs k
 if x.1 = 17 then false
 else if x.1 = 9 then callOk es x.2.1 start es
 else if x.1 = 6 then loopOk cs (k + 1) && decide (k + 4 < fin)
 else if x.1 = 7 then loopOk cs k && decide (start ≤ k - 1) && decide (k + 3 < fin)
 else if x.1 = 8 then loopOk cs (k - 2) && decide (start ≤ k - 3)
 else if x.1 = 13 then inB x.2.1 (k + 1) (fin - 1)
 else if x.1 = 11 then inB x.2.2 (k + 1) (fin - 1)
 else if x.1 = 14 then isOp cs (k + 1) 9 && isOp cs (k + 2) 15 && decide (k + 2 < fin)
 else if x.1 = 15 then isOp cs (k - 1) 9 && isOp cs (k - 2) 14 && decide (start ≤ k - 2)
 else true
def endOf (cs : List Ins) (es : List Int) (b : Nat) : Int := if b + 1 < es.length then es.getD (b + 1) 0 else (cs.length : Int)
def rowOk (cs : List Ins) (es : List Int) (start fin : Int) : Nat → Int → Bool
 | 0, _ => true
 | f + 1, k => innerOk cs es k start fin && rowOk cs es start fin f (k + 1)
def blockOk (cs : List Ins) (es : List Int) (b : Nat) : Bool :=
 !(decide (endOf cs es b ≤ es.getD b 0) || !isOp cs (endOf cs es b - 1) 10) && rowOk cs es (es.getD b 0) (endOf cs es b) (endOf cs es b - es.getD b 0).toNat (es.getD b 0)
def allFrom (p : Nat → Bool) : Nat → Nat → Bool
 | 0, _ => true
 | f + 1, k => p k && allFrom p f (k + 1)
def blocksOk (cs : List Ins) (es : List Int) : Bool := allFrom (blockOk cs es) es.length 0
def headOk (cs : List Ins) (es : List Int) : Bool :=
 !(decide (700 < (cs.length : Int)) || ((es.length : Int) == 0) || !(es.getD 0 0 == 2) || !isOp cs 0 9 || !isOp cs 1 17 || !((insAt cs 0).2.1 == es.getD (es.length - 1) 0))
def ascOk (cs : List Ins) (es : List Int) (i : Nat) : Bool := !(decide (es.getD (i + 1) 0 ≤ es.getD i 0) || decide ((cs.length : Int) ≤ es.getD (i + 1) 0))
def safeOk (cs : List Ins) (es : List Int) : Bool :=
 headOk cs es && allFrom (fun i => insOk cs (i : Int)) cs.length 0 && allFrom (ascOk cs es) (es.length - 1) 0 && blocksOk cs es
theorem allFrom_at {p : Nat → Bool} : ∀ {f k : Nat}, allFrom p f k = true → ∀ i, k ≤ i → i < k + f → p i = true
 | 0, k, _, i, h1, h2 => by omega
 | f + 1, k, h, i, h1, h2 => by
  rw [allFrom, Bool.and_eq_true] at h
  rcases Nat.eq_or_lt_of_le h1 with h3 | h3
  ·rw [← h3]; exact h.1
  ·exact allFrom_at h.2 i h3 (by omega)
end Go.Proofs.YtpmcofmdjckijaaGreat
namespace Go.Proofs.YtpmcofmdjckijaaGreat
open Go.RowKit
structure Mach.Ok (m : Mach) : Prop where
 st : m.stack.length ≤ 60
 sm : m.sums.length ≤ 30
theorem Mach.Ok.fail {m : Mach} (h : m.Ok) (c : Int) : (m.fail c).Ok := ⟨h.st, h.sm⟩
theorem Mach.Ok.start {m : Mach} (h : m.Ok) (c : Int) : (m.start c).Ok := by unfold Mach.start; split <;> exact ⟨h.st, h.sm⟩
theorem Mach.Ok.push {m : Mach} (h : m.Ok) (c : Int) : (m.push c).Ok := by
 unfold Mach.push
 split
 ·exact h.fail 8
 ·exact ⟨by simp; omega, h.sm⟩
theorem Mach.Ok.pop {m : Mach} (h : m.Ok) : m.pop.Ok := by
 unfold Mach.pop
 split
 ·exact h.fail 8
 ·exact ⟨by have := h.st; simp; omega, h.sm⟩
theorem Mach.Ok.pc {m : Mach} (h : m.Ok) (c : Int) : ({ m with pc := c } : Mach).Ok := ⟨h.st, h.sm⟩
theorem Mach.Ok.loop {m : Mach} (h : m.Ok) (a : Int) : (m.loop a).Ok := by
 unfold Mach.loop
 split
 ·exact h.pop
 ·rename_i h0
  split
  ·exact h.pop.pc a
  ·refine ⟨?_, h.pop.sm⟩
   have := h.st
   unfold Mach.pop; rw [if_neg h0]; simp; omega
theorem Mach.Ok.reads {m : Mach} (h : m.Ok) (x : Ins) : (m.reads x).1.Ok := by
 unfold Mach.reads
 repeat' split
 all_goals first | exact h | exact h.fail _ | exact h.start _ | exact Mach.Ok.start (m := { m with reg := 0 }) ⟨h.st, h.sm⟩ _ | (show (m.start 1).Ok; exact h.start 1)
theorem Mach.Ok.moves {m : Mach} (h : m.Ok) (x : Ins) : (m.moves x).Ok := by
 unfold Mach.moves
 repeat' split
 all_goals first | exact h | exact (h.push _).pc _ | exact h.push _ | exact h.loop _ | exact h.pc _ | exact h.pop.pc _ | exact h.pop | exact h.fail _ | skip
 exact ⟨h.st, by simp; omega⟩
theorem Mach.Ok.step {m : Mach} (h : m.Ok) (x : Ins) : (m.step x).Ok := by
 unfold Mach.step
 repeat' split
 all_goals first | exact h.reads _ | exact ⟨h.st, h.sm⟩ | exact h.fail _ | exact h.pc _ | exact h.moves _
def advN (cs : List Ins) : Nat → Mach → Mach
 | 0, m => if m.state = 0 ∧ m.started = false then m.fail 8 else m
 | f + 1, m => if m.state = 0 ∧ m.started = false then (if inB m.pc 0 ((cs.length : Int) - 1) then advN cs f (m.step (insAt cs m.pc)) else m.fail 8) else m
theorem advN_ok (cs : List Ins) : ∀ f (m : Mach), m.Ok → (advN cs f m).Ok
 | 0, m, h => by rw [advN]; split; exact h.fail 8; exact h
 | f + 1, m, h => by
  rw [advN]
  split
  ·split
   ·exact advN_ok cs f _ (h.step _)
   ·exact h.fail 8
  ·exact h
theorem advN_stop {cs : List Ins} {f : Nat} {m : Mach} (h : ¬ (m.state = 0 ∧ m.started = false)) : advN cs f m = m := by cases f <;> rw [advN, if_neg h]
theorem advN_out {cs : List Ins} {f : Nat} {m : Mach} (h : m.state = 0 ∧ m.started = false) (hi : inB m.pc 0 ((cs.length : Int) - 1) = false) : advN cs f m = m.fail 8 := by
 cases f with
 | zero => rw [advN, if_pos h]
 | succ f => rw [advN, if_pos h, hi]; rfl
theorem advN_go {cs : List Ins} {f : Nat} {m : Mach} (h : m.state = 0 ∧ m.started = false) (hi : inB m.pc 0 ((cs.length : Int) - 1) = true) : advN cs (f + 1) m = advN cs f (m.step (insAt cs m.pc)) := by rw [advN, if_pos h, hi]; rfl
def Mach.mid (m : Mach) (x : Ins) (b : Int) : Mach × Int :=
 if x.1 = 1 then ((if x.2.2 = 1 then { m with reg := wrap64 (m.reg + wrap64 (b * 2 ^ (8 * (x.2.1 - 1 - m.left)).toNat)) } else { m with reg := wrap64 (wrap64 (m.reg * 256) + b) }), wrap64 (m.pc + 1))
 else if x.1 = 2 then ((if b = x.2.1 then m else m.fail 2), wrap64 (m.pc + 1))
 else if x.1 = 13 then ((if 1 < b then m.fail 4 else m), if b = 0 then x.2.1 else wrap64 (m.pc + 1))
 else if x.1 = 16 then ((if m.escaped = true ∨ b ≠ x.2.1 then { m with left := 1, escaped := !m.escaped && b == 92 } else m), wrap64 (m.pc + 1))
 else (m, wrap64 (m.pc + 1))
def Mach.done (m : Mach) (n : Int) : Mach := if m.state = 0 ∧ m.left = 0 then { m with started := false, pc := n } else m
def Mach.take (m : Mach) (x : Ins) (b : Int) : Mach := (m.mid x b).1.done (m.mid x b).2
theorem Mach.Ok.take {m : Mach} (h : m.Ok) (x : Ins) (b : Int) : (m.take x b).Ok := by
 have h1 : (m.mid x b).1.Ok := by
  unfold Mach.mid
  repeat' split
  all_goals exact ⟨h.st, h.sm⟩
 unfold Mach.take Mach.done
 split
 ·exact ⟨h1.st, h1.sm⟩
 ·exact h1
def sumUp (s b : Int) : Int := Int.tmod (wrap64 (s + b)) 256
def Mach.eat (m : Mach) (b : Int) : Mach := { m with sums := m.sums.map (sumUp · b), read := wrap64 (m.read + 1), left := wrap64 (m.left - 1) }
theorem Mach.Ok.eat {m : Mach} (h : m.Ok) (b : Int) : (m.eat b).Ok := ⟨h.st, by have := h.sm; unfold Mach.eat; simp; omega⟩
def Mach.byteI (m : Mach) (x : Ins) (b : Int) : Mach :=
 if x.1 = 1 ∧ inB m.left 1 x.2.1 = false then m.fail 8
 else if x.1 = 15 then
  (if m.sums.length = 0 then m.fail 8
   else if m.sums.getLastD 0 = b then (({ m with sums := m.sums.dropLast } : Mach).eat b).take x b
   else m.fail 5)
 else (m.eat b).take x b
theorem Mach.Ok.byteI {m : Mach} (h : m.Ok) (x : Ins) (b : Int) : (m.byteI x b).Ok := by
 unfold Mach.byteI
 split
 ·exact h.fail 8
 split
 ·split
  ·exact h.fail 8
  split
  ·exact Mach.Ok.take (Mach.Ok.eat (m := { m with sums := m.sums.dropLast }) ⟨h.st, by have := h.sm; simp; omega⟩ b) x b
  ·exact h.fail 5
 ·exact (h.eat b).take x b
def Mach.byte (cs : List Ins) (m : Mach) (b : Int) : Mach := if inB m.pc 0 ((cs.length : Int) - 1) then m.byteI (insAt cs m.pc) b else m.fail 8
def feedO (cs : List Ins) (o : Mach) (b : Int) : Mach := if o.state = 1 then o.fail 7 else if o.state = 0 then Mach.byte cs o b else o
theorem Mach.Ok.byte {m : Mach} (h : m.Ok) (cs : List Ins) (b : Int) : (Mach.byte cs m b).Ok := by
 unfold Mach.byte
 split
 ·exact h.byteI _ b
 ·exact h.fail 8
theorem feedO_ok {cs : List Ins} {o : Mach} (h : o.Ok) (b : Int) : (feedO cs o b).Ok := by
 unfold feedO
 split
 ·exact h.fail 7
 split
 ·exact h.byte cs b
 ·exact h
def advF (f : Bool) (cs : List Ins) (m : Mach) : Mach :=
 if m.state = 0 then (if f && !(m.started && !inB m.pc 0 ((cs.length : Int) - 1)) then advN cs 100001 m else m.fail 8) else m
theorem advF_ok {f : Bool} {cs : List Ins} {m : Mach} (h : m.Ok) : (advF f cs m).Ok := by
 unfold advF
 split
 ·split
  ·exact advN_ok cs _ m h
  ·exact h.fail 8
 ·exact h
def feedF (f : Bool) (cs : List Ins) (m : Mach) (b : Int) : Mach := feedO cs (advF f cs m) b
theorem feedF_ok {f : Bool} {cs : List Ins} {m : Mach} (h : m.Ok) (b : Int) : (feedF f cs m b).Ok := feedO_ok (advF_ok h) b
def feedL (f : Bool) (cs : List Ins) (m : Mach) (l : List UInt8) : Mach := l.foldl (fun m b => feedF f cs m (b.toNat : Int)) m
theorem feedL_ok {f : Bool} {cs : List Ins} : ∀ {l : List UInt8} {m : Mach}, m.Ok → (feedL f cs m l).Ok
 | [], m, h => h
 | b :: t, m, h => feedL_ok (l := t) (feedF_ok h _)
theorem feedL_app (f : Bool) (cs : List Ins) (m : Mach) (l1 l2 : List UInt8) : feedL f cs (feedL f cs m l1) l2 = feedL f cs m (l1 ++ l2) := by unfold feedL; rw [List.foldl_append]
theorem feedL_snoc (f : Bool) (cs : List Ins) (m : Mach) (l : List UInt8) (k : Nat) (hk : k < l.length) : feedL f cs m (l.take (k + 1)) = feedF f cs (feedL f cs m (l.take k)) (l[k].toNat : Int) := by
 unfold feedL; rw [List.take_succ_eq_append_getElem hk, List.foldl_append]; rfl
theorem start_pc {m : Mach} {n : Int} (h0 : m.started = false) (h : (m.start n).started = true) : (m.start n).pc = m.pc := by
 unfold Mach.start at h ⊢
 split
 ·rename_i hn; rw [if_pos hn] at h; rw [h0] at h; cases h
 ·rfl
theorem loop_started (m : Mach) (a : Int) : (m.loop a).started = m.started := by
 unfold Mach.loop Mach.pop Mach.fail
 repeat' split
 all_goals rfl
theorem push_started (m : Mach) (n : Int) : (m.push n).started = m.started := by
 unfold Mach.push Mach.fail
 split <;> rfl
theorem pop_started (m : Mach) : m.pop.started = m.started := by
 unfold Mach.pop Mach.fail
 split <;> rfl
theorem moves_started (m : Mach) (x : Ins) : (m.moves x).started = m.started := by
 unfold Mach.moves
 repeat' split
 all_goals first | rfl | exact loop_started _ _ | exact push_started _ _ | exact pop_started _
theorem step_pc {m : Mach} {x : Ins} (h0 : m.started = false) (h : (m.step x).started = true) : (m.step x).pc = m.pc := by
 unfold Mach.step at h ⊢
 by_cases hr : (m.reads x).2 = true
 ·rw [if_pos hr] at h ⊢
  clear hr
  unfold Mach.reads at h ⊢
  by_cases h1 : x.1 = 1
  ·rw [if_pos h1] at h ⊢; exact start_pc (m := { m with reg := 0 }) h0 h
  by_cases h3 : x.1 = 3
  ·rw [if_neg h1, if_pos h3] at h ⊢; exact start_pc h0 h
  by_cases h4 : x.1 = 4
  ·rw [if_neg h1, if_neg h3, if_pos h4] at h ⊢; exact start_pc h0 h
  by_cases h2 : x.1 = 2
  ·rw [if_neg h1, if_neg h3, if_neg h4, if_pos h2] at h ⊢; exact start_pc h0 h
  by_cases h13 : x.1 = 13
  ·rw [if_neg h1, if_neg h3, if_neg h4, if_neg h2, if_pos h13] at h ⊢; exact start_pc h0 h
  by_cases h16 : x.1 = 16
  ·rw [if_neg h1, if_neg h3, if_neg h4, if_neg h2, if_neg h13, if_pos h16] at h ⊢; exact start_pc h0 h
  by_cases h15 : x.1 = 15
  ·rw [if_neg h1, if_neg h3, if_neg h4, if_neg h2, if_neg h13, if_neg h16, if_pos h15] at h ⊢
   by_cases hq : m.sums.length = 0
   ·rw [if_pos hq] at h ⊢; rfl
   ·rw [if_neg hq] at h ⊢; exact start_pc h0 h
  rw [if_neg h1, if_neg h3, if_neg h4, if_neg h2, if_neg h13, if_neg h16, if_neg h15] at h ⊢
 ·rw [if_neg hr] at h ⊢
  by_cases h17 : x.1 = 17
  ·rw [if_pos h17] at h ⊢
  by_cases h12 : x.1 = 12
  ·rw [if_neg h17, if_pos h12] at h ⊢; rfl
  by_cases h5 : x.1 = 5
  ·rw [if_neg h17, if_neg h12, if_pos h5] at h ⊢
   by_cases hl : x.2.1 < m.reg
   ·rw [if_pos hl] at h ⊢; rfl
   ·rw [if_neg hl] at h ⊢; exact absurd h (by show ¬ m.started = true; rw [h0]; simp)
  by_cases h11 : x.1 = 11
  ·rw [if_neg h17, if_neg h12, if_neg h5, if_pos h11] at h ⊢
   by_cases hl : m.reg = x.2.1
   ·rw [if_pos hl] at h ⊢; exact absurd h (by show ¬ m.started = true; rw [h0]; simp)
   ·rw [if_neg hl] at h ⊢; exact absurd h (by show ¬ m.started = true; rw [h0]; simp)
  rw [if_neg h17, if_neg h12, if_neg h5, if_neg h11] at h ⊢
  rw [moves_started, h0] at h; cases h
theorem advN_run {cs : List Ins} : ∀ {f : Nat} {m : Mach}, (m.started = true → inB m.pc 0 ((cs.length : Int) - 1) = true) → (advN cs f m).state = 0 → inB (advN cs f m).pc 0 ((cs.length : Int) - 1) = true
 | 0, m, hp, h => by
  rw [advN] at h ⊢
  by_cases hr : m.state = 0 ∧ m.started = false
  ·rw [if_pos hr] at h; exact absurd h (by show ¬ (2 : Int) = 0; decide)
  ·rw [if_neg hr] at h ⊢
   exact hp (by cases hs : m.started; exact absurd ⟨h, hs⟩ hr; rfl)
 | f + 1, m, hp, h => by
  rw [advN] at h ⊢
  by_cases hr : m.state = 0 ∧ m.started = false
  ·rw [if_pos hr] at h ⊢
   cases hi : inB m.pc 0 ((cs.length : Int) - 1)
   ·rw [hi] at h; exact absurd h (by show ¬ (2 : Int) = 0; decide)
   ·rw [hi] at h
    exact advN_run (fun hs => by rw [step_pc hr.2 hs]; exact hi) h
  ·rw [if_neg hr] at h ⊢
   exact hp (by cases hs : m.started; exact absurd ⟨h, hs⟩ hr; rfl)
theorem advF_run {f : Bool} {cs : List Ins} {m : Mach} (h : (advF f cs m).state = 0) : f = true ∧ inB (advF f cs m).pc 0 ((cs.length : Int) - 1) = true := by
 unfold advF at h ⊢
 by_cases hs : m.state = 0
 ·rw [if_pos hs] at h ⊢
  cases hf : (f && !(m.started && !inB m.pc 0 ((cs.length : Int) - 1)))
  ·rw [hf] at h; exact absurd h (by show ¬ (2 : Int) = 0; decide)
  ·rw [hf] at h
   simp only [Bool.and_eq_true, Bool.not_eq_true', Bool.and_eq_false_iff, Bool.not_eq_false'] at hf
   refine ⟨hf.1, advN_run (fun hst => ?_) h⟩
   rcases hf.2 with h' | h'
   ·rw [hst] at h'; cases h'
   ·exact h'
 ·rw [if_neg hs] at h; exact absurd h hs
end Go.Proofs.YtpmcofmdjckijaaGreat
namespace Go.Proofs.YtpmcofmdjckijaaGreat
open Go.RowKit Go.Sort
theorem OwnL.base {w0 w : World} {v : Value} {l : List Int} (h : OwnL vint 3 w0 w v l) (hp : 0 < l.length) : ∃ g cap, v = .slice (some ⟨g, 0, none⟩) l.length cap ∧ l.length ≤ cap ∧ cap ≤ maxLen := by
 rcases h.2 with ⟨hv, h0⟩ | ⟨g, cap, cur, hv, hb, hg, hnc, hcm, hcs, htake⟩
 ·omega
 ·exact ⟨g, cap, hv, hnc, hcm⟩
theorem OwnL.cellN {w0 w : World} {g n cap : Nat} {l : List Int} (h : OwnL vint 3 w0 w (.slice (some ⟨g, 0, none⟩) n cap) l) (k : Nat) (hk : k < l.length) : w.cell? ⟨g, k, none⟩ = some (.int .i64 l[k]) := by
 have hn : n = l.length := by
  rcases h.2 with ⟨hv, h0⟩ | ⟨g', cap', cur, hv, r⟩
  ·cases hv
  ·injection hv
 subst hn
 have := World.ownsRow.cellAt h k (by omega)
 rw [this]; simp [hk]; rfl
theorem OwnL.freeN {w0 w : World} {g n cap : Nat} {l : List Int} (h : OwnL vint 3 w0 w (.slice (some ⟨g, 0, none⟩) n cap) l) (k : Nat) : w.frozen? ⟨g, k, none⟩ = false := by
 have hn : n = l.length := by
  rcases h.2 with ⟨hv, h0⟩ | ⟨g', cap', cur, hv, r⟩
  ·cases hv
  ·injection hv
 subst hn
 exact World.ownsRow.frozenAt h k
theorem OwnL.putN {w0 w : World} {g n cap : Nat} {l : List Int} (h : OwnL vint 3 w0 w (.slice (some ⟨g, 0, none⟩) n cap) l) (k : Nat) (x : Int) :
 OwnL vint 3 w0 (w.setCell ⟨g, k, none⟩ (.int .i64 x)) (.slice (some ⟨g, 0, none⟩) n cap) (l.set k x) := by
 have hn : n = l.length := by
  rcases h.2 with ⟨hv, h0⟩ | ⟨g', cap', cur, hv, r⟩
  ·cases hv
  ·injection hv
 subst hn
 have := (World.ownsRow.stored h k (.int .i64 x)).1
 unfold OwnL
 rw [List.length_set, List.map_set]
 exact this
theorem MB.rowS {X : Nat → Prop} {W0 w : World} {p g n cap : Nat} {m : Mach} {vq : Value} (h : MB X W0 w p m (.slice (some ⟨g, 0, none⟩) n cap) vq) (k : Nat) (x : Int) :
 MB X W0 (w.setCell ⟨g, k, none⟩ (.int .i64 x)) p { m with stack := m.stack.set k x } (.slice (some ⟨g, 0, none⟩) n cap) vq := by
 have hg : (Value.slice (some ⟨g, 0, none⟩) n cap).ownBlock = some g := rfl
 exact ⟨h.lo, h.box.other (fun hh => h.n1 (by rw [hg, hh])) _ _, h.os.putN k x, h.oq.other _ _ (fun hh => h.far g hg hh), h.n1, h.n2, h.far, h.xp, h.xs, h.xq, fun k hk => by simpa using h.low k hk, h.ext.setCell (p := ⟨g, k, none⟩) (World.ownsRow.lt h.os g hg).1 _⟩
theorem MB.rowQ {X : Nat → Prop} {W0 w : World} {p g n cap : Nat} {m : Mach} {vs : Value} (h : MB X W0 w p m vs (.slice (some ⟨g, 0, none⟩) n cap)) (k : Nat) (x : Int) :
 MB X W0 (w.setCell ⟨g, k, none⟩ (.int .i64 x)) p { m with sums := m.sums.set k x } vs (.slice (some ⟨g, 0, none⟩) n cap) := by
 have hg : (Value.slice (some ⟨g, 0, none⟩) n cap).ownBlock = some g := rfl
 exact ⟨h.lo, h.box.other (fun hh => h.n2 (by rw [hg, hh])) _ _, h.os.other _ _ (fun hh => h.far g hh hg), h.oq.putN k x, h.n1, h.n2, h.far, h.xp, h.xs, h.xq, fun k hk => by simpa using h.low k hk, h.ext.setCell (p := ⟨g, k, none⟩) (World.ownsRow.lt h.oq g hg).1 _⟩
theorem MB.gS {X : Nat → Prop} {W0 w : World} {p g n cap : Nat} {m : Mach} {vq : Value} (h : MB X W0 w p m (.slice (some ⟨g, 0, none⟩) n cap) vq) : ¬ X g := h.xs g rfl
theorem MB.gQ {X : Nat → Prop} {W0 w : World} {p g n cap : Nat} {m : Mach} {vs : Value} (h : MB X W0 w p m vs (.slice (some ⟨g, 0, none⟩) n cap)) : ¬ X g := h.xq g rfl
theorem MB.popS {X : Nat → Prop} {W0 w : World} {p n cap : Nat} {A : Option Addr} {m : Mach} {vq : Value} (h : MB X W0 w p m (.slice A n cap) vq) (hp : 0 < m.stack.length) :
 MB X W0 (w.setCell ⟨p, 2, none⟩ (.slice A (n - 1) cap)) p { m with stack := m.stack.dropLast } (.slice A (n - 1) cap) vq := by
 have hb : (Value.slice A (n - 1) cap).ownBlock = (Value.slice A n cap).ownBlock := by cases A <;> rfl
 exact h.putS (m' := { m with stack := m.stack.dropLast }) (OwnL.pop h.os hp) h.ext (.inl hb) (World.grownBy.refl _ _) rfl rfl
theorem MB.popQ {X : Nat → Prop} {W0 w : World} {p n cap : Nat} {A : Option Addr} {m : Mach} {vs : Value} (h : MB X W0 w p m vs (.slice A n cap)) (hp : 0 < m.sums.length) :
 MB X W0 (w.setCell ⟨p, 3, none⟩ (.slice A (n - 1) cap)) p { m with sums := m.sums.dropLast } vs (.slice A (n - 1) cap) := by
 have hb : (Value.slice A (n - 1) cap).ownBlock = (Value.slice A n cap).ownBlock := by cases A <;> rfl
 exact h.putQ (m' := { m with sums := m.sums.dropLast }) (OwnL.pop h.oq hp) h.ext (.inl hb) (World.grownBy.refl _ _) rfl rfl
theorem last_at (l : List Int) (hp : 0 < l.length) : l.getLastD 0 = l[l.length - 1]'(by omega) := by
 rw [List.getLastD_eq_getLast?, List.getLast?_eq_getElem?, List.getElem?_eq_getElem (by omega)]; rfl
theorem set_last (l : List Int) (x : Int) (hp : 0 < l.length) : l.set (l.length - 1) x = l.dropLast ++ [x] := by
 rw [List.set_eq_take_append_cons_drop, if_pos (by omega), List.dropLast_eq_take, List.drop_eq_nil_of_le (by omega)]
theorem map_take_succ (l r : List Int) (f : Int → Int) (k : Nat) (hk : k < l.length) : ((l.take k).map f ++ l.drop k).set k (f l[k]) = (l.take (k + 1)).map f ++ l.drop (k + 1) := by
 rw [List.set_append_right _ _ (by simp; omega), List.length_map, List.length_take, Nat.min_eq_left (by omega), Nat.sub_self, List.drop_eq_getElem_cons hk, List.set_cons_zero, List.take_succ_eq_append_getElem hk, List.map_append, List.append_assoc]; rfl
def Mach.skip (m : Mach) : Mach := if m.left = 0 then { m with started := false, pc := wrap64 (m.pc + 1) } else m
def Mach.pushN (m : Mach) (n nx : Int) : Mach := if 60 ≤ m.stack.length then m.fail 8 else { m with stack := m.stack ++ [n], pc := nx }
theorem iFail_c (X : Nat → Prop) (W0 : World) (p : Nat) (m : Mach) (c : Int) (w : World) (h : MV X W0 w p m) :
 Calls Tryz.prog 114 #[.pointer (some ⟨p, 0, none⟩), .int .i64 c] w fun e w' => e = .returned (.tuple #[]) ∧ MV X W0 w' p (m.fail c) ∧ MR X w w' := by
 obtain ⟨vs, vq, hb⟩ := h
 have r := hb.box.cell; have f := hb.box.free
 have H1 := Lib.hid ((hb.put (m' := { m with state := 2 }) 7 (.int .i64 2) rfl rfl rfl).put (m' := m.fail c) 8 (.int .i64 c) rfl rfl rfl)
 have H2 : Hid (MR X w ((w.setCell ⟨p, 7, none⟩ (.int .i64 2)).setCell ⟨p, 8, none⟩ (.int .i64 c))) := (MR.set _ hb.xp).trans (MR.set _ hb.xp)
 have r7 : w.cell? ⟨p, 7, none⟩ = some (.int .i64 m.state) := r 7
 have r8 : w.cell? ⟨p, 8, none⟩ = some (.int .i64 m.code) := r 8
 have f7 := f 7; have f8 := f 8
 clear r f hb
 go_enter Tryz.func114, Tryz.ntmps114
 go_wp2
 first
  | exact bodyPost_end (results_none rfl _ _ _) rfl ⟨rfl, ⟨_, _, H1.out⟩, H2.out⟩
  | exact bodyPost_ret (results_none rfl _ _ _) rfl ⟨rfl, ⟨_, _, H1.out⟩, H2.out⟩
theorem iBegin_c (X : Nat → Prop) (W0 : World) (p : Nat) (m : Mach) (c : Int) (w : World) (h : MV X W0 w p m) :
 Calls Tryz.prog 178 #[.pointer (some ⟨p, 0, none⟩), .int .i64 c] w fun e w' => e = .returned (.tuple #[]) ∧ MV X W0 w' p (m.start c) ∧ MR X w w' := by
 obtain ⟨vs, vq, hb⟩ := h
 have r := hb.box.cell; have f := hb.box.free
 have r0 : w.cell? ⟨p, 0, none⟩ = some (.int .i64 m.pc) := r 0
 have r4 : w.cell? ⟨p, 4, none⟩ = some (.int .i64 m.left) := r 4
 have r5 : w.cell? ⟨p, 5, none⟩ = some (.bool m.started) := r 5
 have f0 := f 0; have f4 := f 4; have f5 := f 5
 clear r f
 by_cases hc : c = 0
 ·subst hc
  have HM : Hid (m.start 0 = { m with pc := wrap64 (m.pc + 1) }) := rfl
  have H1 := Lib.hid (hb.put (m' := m.start 0) 0 (.int .i64 (wrap64 (m.pc + 1))) rfl rfl rfl)
  have H2 : Hid (MR X w (w.setCell ⟨p, 0, none⟩ (.int .i64 (wrap64 (m.pc + 1))))) := MR.set _ hb.xp
  clear hb
  go_enter Tryz.func178, Tryz.ntmps178
  go_wp2
  first
   | exact bodyPost_end (results_none rfl _ _ _) rfl ⟨rfl, ⟨_, _, H1.out⟩, H2.out⟩
   | exact bodyPost_ret (results_none rfl _ _ _) rfl ⟨rfl, ⟨_, _, H1.out⟩, H2.out⟩
 ·have HM : Hid (m.start c = { m with started := true, left := c }) := by show _ = _; unfold Mach.start; rw [if_neg hc]
  have H1 := Lib.hid ((hb.put (m' := { m with started := true }) 5 (.bool true) rfl rfl rfl).put (m' := { m with started := true, left := c }) 4 (.int .i64 c) rfl rfl rfl)
  have H2 : Hid (MR X w ((w.setCell ⟨p, 5, none⟩ (.bool true)).setCell ⟨p, 4, none⟩ (.int .i64 c))) := (MR.set _ hb.xp).trans (MR.set _ hb.xp)
  clear hb
  rw [HM.out]
  go_enter Tryz.func178, Tryz.ntmps178
  go_wp2
  first
   | exact bodyPost_end (results_none rfl _ _ _) rfl ⟨rfl, ⟨_, _, H1.out⟩, H2.out⟩
   | exact bodyPost_ret (results_none rfl _ _ _) rfl ⟨rfl, ⟨_, _, H1.out⟩, H2.out⟩
theorem iFinish_c (X : Nat → Prop) (W0 : World) (p : Nat) (m : Mach) (n : Int) (w : World) (h : MV X W0 w p m) :
 Calls Tryz.prog 182 #[.pointer (some ⟨p, 0, none⟩), .int .i64 n] w fun e w' => e = .returned (.tuple #[]) ∧ MV X W0 w' p ({ m with started := false, pc := n }) ∧ MR X w w' := by
 obtain ⟨vs, vq, hb⟩ := h
 have r0 : w.cell? ⟨p, 0, none⟩ = some (.int .i64 m.pc) := hb.box.cell 0
 have r5 : w.cell? ⟨p, 5, none⟩ = some (.bool m.started) := hb.box.cell 5
 have f0 := hb.box.free 0; have f5 := hb.box.free 5
 have H1 := Lib.hid ((hb.put (m' := { m with started := false }) 5 (.bool false) rfl rfl rfl).put (m' := { m with started := false, pc := n }) 0 (.int .i64 n) rfl rfl rfl)
 have H2 : Hid (MR X w ((w.setCell ⟨p, 5, none⟩ (.bool false)).setCell ⟨p, 0, none⟩ (.int .i64 n))) := (MR.set _ hb.xp).trans (MR.set _ hb.xp)
 clear hb
 go_enter Tryz.func182, Tryz.ntmps182
 go_wp2
 first
  | exact bodyPost_end (results_none rfl _ _ _) rfl ⟨rfl, ⟨_, _, H1.out⟩, H2.out⟩
  | exact bodyPost_ret (results_none rfl _ _ _) rfl ⟨rfl, ⟨_, _, H1.out⟩, H2.out⟩
theorem iSkip_c (X : Nat → Prop) (W0 : World) (p : Nat) (m : Mach) (w : World) (h : MV X W0 w p m) :
 Calls Tryz.prog 156 #[.pointer (some ⟨p, 0, none⟩)] w fun e w' => e = .returned (.tuple #[]) ∧ MV X W0 w' p (m.skip) ∧ MR X w w' := by
 have CF := Lib.hid (fun (n : Int) w' h => iFinish_c X W0 p m n w' h)
 have HV := Lib.hid h
 obtain ⟨vs, vq, hb⟩ := h
 have r0 : w.cell? ⟨p, 0, none⟩ = some (.int .i64 m.pc) := hb.box.cell 0
 have r4 : w.cell? ⟨p, 4, none⟩ = some (.int .i64 m.left) := hb.box.cell 4
 by_cases h0 : m.left = 0
 ·have HM : Hid (m.skip = { m with started := false, pc := wrap64 (m.pc + 1) }) := by show _ = _; unfold Mach.skip; rw [if_pos h0]
  have hb0 : (m.left == 0) = true := by simp [h0]
  rw [HM.out]
  clear hb h0
  go_enter Tryz.func156, Tryz.ntmps156
  go_wp2_with fail
  refine (CF.out _ _ HV.out).mono ?_; rintro _ w1 ⟨rfl, hm1, hr1⟩
  go_wp2
  first
   | exact bodyPost_end (results_none rfl _ _ _) rfl ⟨rfl, hm1, hr1⟩
   | exact bodyPost_ret (results_none rfl _ _ _) rfl ⟨rfl, hm1, hr1⟩
 ·have HM : Hid (m.skip = m) := by show _ = _; unfold Mach.skip; rw [if_neg h0]
  have hb0 : (m.left == 0) = false := by simp [h0]
  rw [HM.out]
  clear hb
  go_enter Tryz.func156, Tryz.ntmps156
  go_wp2
  first
   | exact bodyPost_end (results_none rfl _ _ _) rfl ⟨rfl, HV.out, MR.refl _ _⟩
   | exact bodyPost_ret (results_none rfl _ _ _) rfl ⟨rfl, HV.out, MR.refl _ _⟩
theorem iPush_c (X : Nat → Prop) (W0 : World) (p : Nat) (m : Mach) (n nx : Int) (w : World) (h : MV X W0 w p m) (hs : m.stack.length ≤ 60) :
 Calls Tryz.prog 179 #[.pointer (some ⟨p, 0, none⟩), .int .i64 n, .int .i64 nx] w fun e w' => e = .returned (.tuple #[]) ∧ MV X W0 w' p (m.pushN n nx) ∧ MR X w w' := by
 have CF := Lib.hid (fun w h => iFail_c X W0 p m 8 w h)
 have HV := Lib.hid h
 obtain ⟨vs, vq, hb⟩ := h
 have r := hb.box.cell; have f := hb.box.free
 obtain ⟨A, c, hvs, _⟩ := OwnL.rd hb.os (by omega)
 subst hvs
 have r2 : w.cell? ⟨p, 2, none⟩ = some (.slice A m.stack.length c) := r 2
 have f2 := f 2
 clear r f
 by_cases hc : 60 ≤ m.stack.length
 ·have HM : Hid (m.pushN n nx = m.fail 8) := by show _ = _; unfold Mach.pushN; rw [if_pos hc]
  rw [HM.out]
  have hci : (60 : Int) ≤ (m.stack.length : Int) := by omega
  clear hb
  go_enter Tryz.func179, Tryz.ntmps179
  go_wp2_with fail
  refine (CF.out _ HV.out).mono ?_; rintro _ w1 ⟨rfl, hm1, hr1⟩
  go_wp2
  first
   | exact bodyPost_end (results_none rfl _ _ _) rfl ⟨rfl, hm1, hr1⟩
   | exact bodyPost_ret (results_none rfl _ _ _) rfl ⟨rfl, hm1, hr1⟩
 ·have HM : Hid (m.pushN n nx = { m with stack := m.stack ++ [n], pc := nx }) := by show _ = _; unfold Mach.pushN; rw [if_neg hc]
  rw [HM.out]
  have hci : ¬ (60 : Int) ≤ (m.stack.length : Int) := by omega
  have e1 := Ext_alloc (.cells #[.int .i64 n] 3) (Ext.refl w)
  have HB1 := Lib.hid (hb.next e1)
  have HM1 : Hid (MR X w (w.alloc (.cells #[.int .i64 n] 3))) := MR.alloc _ hb.low
  have HBD : Hid ((m.stack.length + [n].length) * 8 ≤ 140737488355328) := by show _ ≤ _; simp; omega
  have HO := Lib.hid hb.os; have HE := Lib.hid hb.ext
  clear hb
  go_enter Tryz.func179, Tryz.ntmps179
  go_wp2_with (first
   | (at_builtin; go_must (refine wpList_appNB rfl (.tmp 18) (.tmp 20) _ rfl E_int (by omega) W0 _ vint (fun _ => rfl) _ rfl _ _ _ rfl (by simp) m.stack [n] _ rfl HO.out HE.out rfl HBD.out ?_); intro v1 w1 ho1 he1 hv1 hg1; obtain ⟨A1, n1, c1, hv1'⟩ := Own.slice2 ho1; subst hv1'; have q2 : w1.cell? ⟨p, 2, none⟩ = some (Value.slice A m.stack.length c) := (HB1.out.box.moved hg1 HB1.out.n1).cell 2; have q2f := (HB1.out.box.moved hg1 HB1.out.n1).free 2; have HP1 := Lib.hid (HB1.out.putS (m' := { m with stack := m.stack ++ [n] }) ho1 he1 hv1 hg1 rfl rfl); have q0 : (w1.setCell ⟨p, 2, none⟩ (.slice A1 n1 c1)).cell? ⟨p, 0, none⟩ = some (.int .i64 m.pc) := HP1.out.box.cell 0; have q0f := HP1.out.box.free 0))
  have HP2 := Lib.hid (HP1.out.put (m' := { m with stack := m.stack ++ [n], pc := nx }) 0 (.int .i64 nx) rfl rfl rfl)
  have HR2 := Lib.hid (HM1.out.trans ((MR.grown hg1 (fun b hb => HB1.out.xs b hb) HB1.out.low).trans ((MR.set (i := 2) (Value.slice A1 n1 c1) HB1.out.xp).trans (MR.set (i := 0) (Value.int .i64 nx) HB1.out.xp))))
  first
   | exact bodyPost_end (results_none rfl _ _ _) rfl ⟨rfl, ⟨_, _, HP2.out⟩, HR2.out⟩
   | exact bodyPost_ret (results_none rfl _ _ _) rfl ⟨rfl, ⟨_, _, HP2.out⟩, HR2.out⟩
theorem iTop0_c (X : Nat → Prop) (W0 : World) (p : Nat) (m : Mach) (w : World) (h : MV X W0 w p m) (h0 : m.stack.length = 0) :
 Calls Tryz.prog 194 #[.pointer (some ⟨p, 0, none⟩)] w fun e w' => e = .returned (.tuple #[.pointer none, .bool false]) ∧ MV X W0 w' p (m.fail 8) ∧ MR X w w' := by
 have CF := Lib.hid (fun w h => iFail_c X W0 p m 8 w h)
 have HV := Lib.hid h
 obtain ⟨vs, vq, hb⟩ := h
 obtain ⟨A, c, hvs, rS⟩ := OwnL.rd hb.os (by omega)
 subst hvs
 have r2 : w.cell? ⟨p, 2, none⟩ = some (Value.slice A m.stack.length c) := hb.box.cell 2
 rw [h0] at r2
 clear hb rS h0
 go_enter Tryz.func194, Tryz.ntmps194
 go_wp2_with fail
 refine (CF.out _ HV.out).mono ?_; rintro _ w1 ⟨rfl, hm1, hr1⟩
 go_wp2
 exact bodyPost_ret (v := .tuple #[.pointer none, .bool false]) (by simp [results, Tryz.results194, go_sem]) rfl ⟨rfl, hm1, hr1⟩
theorem iTop1_c (X : Nat → Prop) (W0 : World) (p : Nat) (m : Mach) (w : World) (h : MV X W0 w p m) (hp : 0 < m.stack.length) (hs : m.stack.length ≤ 60) :
 Calls Tryz.prog 194 #[.pointer (some ⟨p, 0, none⟩)] w fun e w' => ∃ g cap vq, e = .returned (.tuple #[.pointer (some ⟨g, m.stack.length - 1, none⟩), .bool true]) ∧ MB X W0 w' p m (.slice (some ⟨g, 0, none⟩) m.stack.length cap) vq ∧ MR X w w' := by
 obtain ⟨vs, vq, hb⟩ := h
 obtain ⟨g, cap, hvs, hc1, hc2⟩ := hb.os.base hp
 subst hvs
 have r2 : ∀ w', Ext w w' → w'.cell? ⟨p, 2, none⟩ = some (Value.slice (some ⟨g, 0, none⟩) m.stack.length cap) := fun w' e => (hb.box.ext e).cell 2
 have HB := Lib.hid hb
 have hne : ((m.stack.length : Int) == 0) = false := by rw [beq_eq_false_iff_ne]; omega
 have hi0 : (0 : Int) ≤ (m.stack.length : Int) - 1 := by omega
 have hi1 : (m.stack.length : Int) - 1 < (m.stack.length : Int) := by omega
 have hi2 : ((m.stack.length : Int) - 1).toNat = m.stack.length - 1 := by omega
 have hiw : IntKind.i64.wrap ((m.stack.length : Int) - 1) = (m.stack.length : Int) - 1 := IntWalk.i64_in _ (by omega)
 clear hb hc1 hc2 hp
 go_enter Tryz.func194, Tryz.ntmps194
 go_wp2_with fail
 refine wp_region_quiet_below (by kernel_rfl) (by kernel_rfl) ?_
 repeat (go_big_quiet_step ((fail)))
 refine wpQuiet_nil ?_
 rintro w4 ⟨⟨nq, osq⟩, hq⟩
 have ew4 := ext_of_q hq
 clear hq nq osq
 clear hiw
 go_wp2
 exact bodyPost_ret (v := .tuple #[.pointer (some ⟨g, m.stack.length - 1, none⟩), .bool true]) (by simp [results, Tryz.results194, go_sem]) rfl ⟨_, _, _, rfl, HB.out.next ew4, MR.of_ext ew4 HB.out.low⟩
theorem loop_pos {m : Mach} {a : Int} (hp : 0 < m.stack.length) (h0 : m.last ≠ 0) : m.loop a = { m with stack := m.stack.set (m.stack.length - 1) (wrap64 (m.last - 1)), pc := wrap64 (m.pc + 1) } := by
 unfold Mach.loop Mach.pop
 rw [if_neg (by omega), if_neg h0, if_neg (by omega), set_last _ _ hp]
theorem loop_zero {m : Mach} {a : Int} (hp : 0 < m.stack.length) (h0 : m.last = 0) : m.loop a = { m with stack := m.stack.dropLast, pc := a } := by
 unfold Mach.loop Mach.pop
 rw [if_neg (by omega), if_pos h0, if_neg (by omega)]
theorem loop_no {m : Mach} {a : Int} (h0 : m.stack.length = 0) : m.loop a = m.fail 8 := by
 unfold Mach.loop Mach.pop
 rw [if_pos h0, if_pos h0]
theorem iLoopM_c (X : Nat → Prop) (W0 : World) (p : Nat) (m : Mach) (x : Ins) (w : World) (h : MV X W0 w p m) (hs : m.stack.length ≤ 60) :
 Calls Tryz.prog 180 #[.pointer (some ⟨p, 0, none⟩), .agg #[.int .i64 x.1, .int .i64 x.2.1, .int .i64 x.2.2]] w fun e w' => e = .returned (.tuple #[]) ∧ MV X W0 w' p (m.loop x.2.1) ∧ MR X w w' := by
 obtain ⟨vs, vq, hB⟩ := h
 obtain ⟨W1, hW1⟩ : ∃ W, Hid (W = w.alloc (.cells #[.int .i64 x.1, .int .i64 x.2.1, .int .i64 x.2.2] 79)) := ⟨_, rfl⟩
 have e1 : Ext w W1 := ka hW1
 have HB : Hid (MB (fun k => X k ∨ k = w.heap.size) W0 W1 p m vs vq) := by rw [hW1.out]; exact hB.guard _
 have HR1 : Hid (MR X w W1) := MR.of_ext e1 hB.low
 have HXW : Hid (∀ k, X k → X k ∨ k = w.heap.size) := fun k hk => .inl hk
 have HBI : Hid (Box W1 w.heap.size #[.int .i64 x.1, .int .i64 x.2.1, .int .i64 x.2.2] 79) := by rw [hW1.out]; exact Box.new _ _ _
 have hpl : p < w.heap.size := hB.box.lt
 have hne : p ≠ w.heap.size := by omega
 have hne' : w.heap.size ≠ p := by omega
 have hmv : MV (fun k => X k ∨ k = w.heap.size) W0 W1 p m := ⟨_, _, HB.out⟩
 by_cases h0 : m.stack.length = 0
 ·have HM := Lib.hid (loop_no (a := x.2.1) h0)
  have CT := Lib.hid (iTop0_c (fun k => X k ∨ k = w.heap.size) W0 p m W1 hmv h0)
  rw [HM.out]
  clear hB e1 hmv
  go_enter Tryz.func180, Tryz.ntmps180
  go_wp2_with fail
  rw [← hW1.out]
  refine CT.out.mono ?_; rintro _ w2 ⟨rfl, ⟨vs2, vq2, hm2⟩, hr2⟩
  have HRE := HR1.out.trans (hr2.weak HXW.out)
  go_wp2
  first
   | exact bodyPost_end (results_none rfl _ _ _) rfl ⟨rfl, ⟨_, _, hm2.weak HXW.out⟩, HRE⟩
   | exact bodyPost_ret (results_none rfl _ _ _) rfl ⟨rfl, ⟨_, _, hm2.weak HXW.out⟩, HRE⟩
 have hp : 0 < m.stack.length := by omega
 have CT := Lib.hid (iTop1_c (fun k => X k ∨ k = w.heap.size) W0 p m W1 hmv hp hs)
 have HPOS := Lib.hid hp; have HLA : Hid (m.last = m.stack[m.stack.length - 1]) := last_at m.stack hp
 have HS := Lib.hid hs
 by_cases hl : m.last = 0
 ·have HM := Lib.hid (loop_zero (a := x.2.1) hp hl)
  rw [HM.out]
  clear hB e1 hmv
  go_enter Tryz.func180, Tryz.ntmps180
  go_wp2_with fail
  rw [← hW1.out]
  refine CT.out.mono ?_; rintro _ w2 ⟨g, cap, vq2, rfl, hm2, hr2⟩
  have HB2 := Lib.hid hm2
  have HR2 := Lib.hid (HR1.out.trans (hr2.weak HXW.out))
  have hbi : Box w2 w.heap.size #[.int .i64 x.1, .int .i64 x.2.1, .int .i64 x.2.2] 79 := (hr2.kept _ (.inr rfl)).trans HBI.out
  have HBI2 := Lib.hid hbi
  have rn : ∀ w', Ext w2 w' → w'.cell? ⟨g, m.stack.length - 1, none⟩ = some (.int .i64 0) := fun w' e => by
   rw [OwnL.cellN (HB2.out.os.ext e) (m.stack.length - 1) (by have := HPOS.out; omega), ← HLA.out, hl]
  have r2 : ∀ w', Ext w2 w' → w'.cell? ⟨p, 2, none⟩ = some (Value.slice (some ⟨g, 0, none⟩) m.stack.length cap) := fun w' e => (HB2.out.box.ext e).cell 2
  have hcp : m.stack.length ≤ cap := by obtain ⟨g', c', hv, h1, _⟩ := HB2.out.os.base HPOS.out; injection hv with i1 i2 i3; omega
  clear hm2 hr2 hbi
  have hi0 : (0 : Int) ≤ (m.stack.length : Int) - 1 := by omega
  have hi1 : (m.stack.length : Int) - 1 < (m.stack.length : Int) := by omega
  have hi2 : ((m.stack.length : Int) - 1).toNat = m.stack.length - 1 := by omega
  have hi3 : (m.stack.length : Int) - 1 ≤ (cap : Int) := by omega
  have hiw : IntKind.i64.wrap ((m.stack.length : Int) - 1) = (m.stack.length : Int) - 1 := IntWalk.i64_in _ (by omega)
  clear HLA hl
  clear hp hs h0
  go_wp2_with fail
  refine region_qtail_below 14 (by kernel_rfl) (by kernel_rfl) ?_
  simp only [List.take_succ_cons, List.take_zero, List.drop_succ_cons, List.drop_zero]
  repeat (go_big_quiet_step (fail))
  refine wpQuiet_nil ?_
  rintro w4 ⟨⟨nq, osq⟩, hq⟩
  have e4 := ext_of_q hq
  clear hq nq osq hiw hi0 hi1 hi2 hi3 rn
  have HB4 := Lib.hid (HB2.out.next e4)
  have q2 := r2 w4 e4
  have q2f := HB4.out.box.free 2
  have HB5 := Lib.hid (HB4.out.popS HPOS.out)
  have q0 : (w4.setCell ⟨p, 2, none⟩ (.slice (some ⟨g, 0, none⟩) (m.stack.length - 1) cap)).cell? ⟨p, 0, none⟩ = some (.int .i64 m.pc) := HB5.out.box.cell 0
  have q0f := HB5.out.box.free 0
  have hr4 : MR (fun k => X k ∨ k = w.heap.size) w2 (w4.setCell ⟨p, 2, none⟩ (.slice (some ⟨g, 0, none⟩) (m.stack.length - 1) cap)) := (MR.of_ext e4 HB2.out.low).trans (MR.set (i := 2) _ HB2.out.xp)
  have hb5 : Box _ w.heap.size #[.int .i64 x.1, .int .i64 x.2.1, .int .i64 x.2.2] 79 := (hr4.kept _ (.inr rfl)).trans HBI2.out
  have u1 : (w4.setCell ⟨p, 2, none⟩ (.slice (some ⟨g, 0, none⟩) (m.stack.length - 1) cap)).cell? ⟨w.heap.size, 1, none⟩ = some (.int .i64 x.2.1) := hb5.cell 1
  have HB6 := Lib.hid (HB5.out.put (m' := { m with stack := m.stack.dropLast, pc := x.2.1 }) 0 (.int .i64 x.2.1) rfl rfl rfl)
  have HR6 := Lib.hid (HR2.out.trans ((hr4.trans (MR.set (i := 0) (Value.int .i64 x.2.1) HB5.out.xp)).weak HXW.out))
  clear hr4 hb5 r2
  go_wp2
  first
   | exact bodyPost_end (results_none rfl _ _ _) rfl ⟨rfl, ⟨_, _, HB6.out.weak HXW.out⟩, HR6.out⟩
   | exact bodyPost_ret (results_none rfl _ _ _) rfl ⟨rfl, ⟨_, _, HB6.out.weak HXW.out⟩, HR6.out⟩
 ·have HM := Lib.hid (loop_pos (a := x.2.1) hp hl)
  rw [HM.out]
  clear hB e1 hmv
  go_enter Tryz.func180, Tryz.ntmps180
  go_wp2_with fail
  rw [← hW1.out]
  refine CT.out.mono ?_; rintro _ w2 ⟨g, cap, vq2, rfl, hm2, hr2⟩
  have HB2 := Lib.hid hm2
  have HR2 := Lib.hid (HR1.out.trans (hr2.weak HXW.out))
  have rn : w2.cell? ⟨g, m.stack.length - 1, none⟩ = some (.int .i64 m.last) := by
   rw [OwnL.cellN HB2.out.os (m.stack.length - 1) (by omega), ← HLA.out]
  have rf := OwnL.freeN HB2.out.os (m.stack.length - 1)
  have hlb : (m.last == 0) = false := by simp [hl]
  have hb3 := HB2.out.rowS (m.stack.length - 1) (wrap64 (m.last - 1))
  have q0 : (w2.setCell ⟨g, m.stack.length - 1, none⟩ (.int .i64 (wrap64 (m.last - 1)))).cell? ⟨p, 0, none⟩ = some (.int .i64 m.pc) := hb3.box.cell 0
  have q0f := hb3.box.free 0
  have HB4 := Lib.hid (hb3.put (m' := { m with stack := m.stack.set (m.stack.length - 1) (wrap64 (m.last - 1)), pc := wrap64 (m.pc + 1) }) 0 (.int .i64 (wrap64 (m.pc + 1))) rfl rfl rfl)
  have HR4 := Lib.hid (HR2.out.trans (((MR.set (i := m.stack.length - 1) (Value.int .i64 (wrap64 (m.last - 1))) HB2.out.gS).trans (MR.set (i := 0) (Value.int .i64 (wrap64 (m.pc + 1))) HB2.out.xp)).weak HXW.out))
  clear hm2 hr2 hb3
  go_wp2
  first
   | exact bodyPost_end (results_none rfl _ _ _) rfl ⟨rfl, ⟨_, _, HB4.out.weak HXW.out⟩, HR4.out⟩
   | exact bodyPost_ret (results_none rfl _ _ _) rfl ⟨rfl, ⟨_, _, HB4.out.weak HXW.out⟩, HR4.out⟩
theorem iBack_c (X : Nat → Prop) (W0 : World) (p : Nat) (m : Mach) (w : World) (h : MV X W0 w p m) (hs : m.stack.length ≤ 60) :
 Calls Tryz.prog 181 #[.pointer (some ⟨p, 0, none⟩)] w fun e w' => e = .returned (.tuple #[]) ∧ MV X W0 w' p (if 0 < m.stack.length then { m.pop with pc := m.last } else m.pop) ∧ MR X w w' := by
 have CT0 := Lib.hid (fun h0 => iTop0_c X W0 p m w h h0)
 by_cases h0 : m.stack.length = 0
 ·have HM : Hid ((if 0 < m.stack.length then { m.pop with pc := m.last } else m.pop) = m.fail 8) := by show _ = _; rw [if_neg (by omega)]; unfold Mach.pop; rw [if_pos h0]
  have CT := Lib.hid (CT0.out h0)
  rw [HM.out]
  clear CT0
  go_enter Tryz.func181, Tryz.ntmps181
  go_wp2_with fail
  refine CT.out.mono ?_; rintro _ w2 ⟨rfl, hm2, hr2⟩
  go_wp2
  first
   | exact bodyPost_end (results_none rfl _ _ _) rfl ⟨rfl, hm2, hr2⟩
   | exact bodyPost_ret (results_none rfl _ _ _) rfl ⟨rfl, hm2, hr2⟩
 have hp : 0 < m.stack.length := by omega
 have CT := Lib.hid (iTop1_c X W0 p m w h hp hs)
 have HPOS := Lib.hid hp; have HLA : Hid (m.last = m.stack[m.stack.length - 1]) := last_at m.stack hp
 have HM : Hid ((if 0 < m.stack.length then { m.pop with pc := m.last } else m.pop) = { m with stack := m.stack.dropLast, pc := m.last }) := by show _ = _; rw [if_pos hp]; unfold Mach.pop; rw [if_neg h0]
 rw [HM.out]
 go_enter Tryz.func181, Tryz.ntmps181
 go_wp2_with fail
 refine CT.out.mono ?_; rintro _ w2 ⟨g, cap, vq2, rfl, hm2, hr2⟩
 have HB2 := Lib.hid hm2
 have HR2 := Lib.hid hr2
 have rn : w2.cell? ⟨g, m.stack.length - 1, none⟩ = some (.int .i64 m.last) := by
  rw [OwnL.cellN HB2.out.os (m.stack.length - 1) (by omega), ← HLA.out]
 have r0 : w2.cell? ⟨p, 0, none⟩ = some (.int .i64 m.pc) := HB2.out.box.cell 0
 have f0 := HB2.out.box.free 0
 have HB3 := Lib.hid (HB2.out.put (m' := { m with pc := m.last }) 0 (.int .i64 m.last) rfl rfl rfl)
 have hcp : m.stack.length ≤ cap := by obtain ⟨g', c', hv, h1, _⟩ := HB2.out.os.base HPOS.out; injection hv with i1 i2 i3; omega
 have hxp := HB2.out.xp
 obtain ⟨w3, hw3⟩ : ∃ W, Hid (W = w2.setCell ⟨p, 0, none⟩ (.int .i64 m.last)) := ⟨_, rfl⟩
 have hr3 : MR X w w3 := by rw [hw3.out]; exact HR2.out.trans (MR.set (i := 0) (Value.int .i64 m.last) hxp)
 have HR3 := Lib.hid hr3
 rw [← hw3.out] at HB3
 clear hm2 hr2 HB2 HR2 hr3
 go_upto_region 3 with (fail)
 rw [← hw3.out]
 clear rn r0 f0
 have r2 : ∀ w', Ext w3 w' → w'.cell? ⟨p, 2, none⟩ = some (Value.slice (some ⟨g, 0, none⟩) m.stack.length cap) := fun w' e => (HB3.out.box.ext e).cell 2
 have hi0 : (0 : Int) ≤ (m.stack.length : Int) - 1 := by omega
 have hi1 : (m.stack.length : Int) - 1 < (m.stack.length : Int) := by omega
 have hi2 : ((m.stack.length : Int) - 1).toNat = m.stack.length - 1 := by omega
 have hi3 : (m.stack.length : Int) - 1 ≤ (cap : Int) := by omega
 have hiw : IntKind.i64.wrap ((m.stack.length : Int) - 1) = (m.stack.length : Int) - 1 := IntWalk.i64_in _ (by omega)
 clear HLA
 clear hp hs h0
 refine region_qtail_below 14 (by kernel_rfl) (by kernel_rfl) ?_
 simp only [List.take_succ_cons, List.take_zero, List.drop_succ_cons, List.drop_zero]
 repeat (go_big_quiet_step (fail))
 refine wpQuiet_nil ?_
 rintro w4 ⟨⟨nq, osq⟩, hq⟩
 have e4 := ext_of_q hq
 clear hq nq osq hiw hi0 hi1 hi2 hi3
 have HB4 := Lib.hid (HB3.out.next e4)
 have q2 := r2 w4 e4
 have q2f := HB4.out.box.free 2
 have HB5 := Lib.hid (HB4.out.popS HPOS.out)
 have HR5 := Lib.hid (HR3.out.trans ((MR.of_ext e4 HB3.out.low).trans (MR.set (i := 2) (Value.slice (some ⟨g, 0, none⟩) (m.stack.length - 1) cap) HB3.out.xp)))
 clear r2
 go_wp2
 first
  | exact bodyPost_end (results_none rfl _ _ _) rfl ⟨rfl, ⟨_, _, HB5.out⟩, HR5.out⟩
  | exact bodyPost_ret (results_none rfl _ _ _) rfl ⟨rfl, ⟨_, _, HB5.out⟩, HR5.out⟩
end Go.Proofs.YtpmcofmdjckijaaGreat
namespace Go.Proofs.YtpmcofmdjckijaaGreat
def opA (cs : List Ins) (k : Int) : Int := if inB k 0 ((cs.length : Int) - 1) then (insAt cs k).1 else 0
def isO (cs : List Ins) (k op : Int) : Bool := opA cs k == op
def loopI (cs : List Ins) (k : Int) : Bool := isO cs k 7 && isO cs (k - 1) 6 && isO cs (k + 1) 9 && isO cs (k + 2) 8 && ((insAt cs (k + 2)).2.1 == k) && ((insAt cs k).2.1 == k + 3)
def markI (cs : List Ins) (k : Int) : Bool := isO cs k 14 && isO cs (k + 1) 9 && isO cs (k + 2) 15
def goI (o : Int) : Bool := o != 8 && o != 10 && o != 12 && o != 17
def idxB (cs : List Ins) (k : Int) : Bool := inB k 0 ((cs.length : Int) - 1)
def insI (cs : List Ins) (k : Int) : Bool :=
 let x := insAt cs k
 idxB cs k && inB x.1 1 17 && !(goI x.1 && !idxB cs (k + 1)) &&
 (if x.1 = 7 then idxB cs x.2.1
  else if x.1 = 8 then idxB cs x.2.1
  else if x.1 = 9 then idxB cs x.2.1
  else if x.1 = 13 then idxB cs x.2.1
  else if x.1 = 11 then idxB cs x.2.2 && decide (0 ≤ x.2.1)
  else if x.1 = 1 then inB x.2.1 1 4 && inB x.2.2 0 1
  else if x.1 = 2 then inB x.2.1 0 255
  else if x.1 = 16 then inB x.2.1 0 255
  else if x.1 = 3 then inB x.2.1 0 400
  else if x.1 = 5 then inB x.2.1 0 400
  else if x.1 = 12 then inB x.2.1 1 8
  else true)
def insideI (cs : List Ins) (es : List Int) (b : Nat) (k t : Int) : Bool := decide (k < t) && decide (t < endOf cs es b)
def placeI (cs : List Ins) (es : List Int) (b : Nat) (k : Int) : Bool :=
 let x := insAt cs k
 if x.1 = 17 then false
 else if x.1 = 9 then (es.take b).any (· == x.2.1)
 else if x.1 = 7 then loopI cs k && insideI cs es b k x.2.1
 else if x.1 = 8 then loopI cs (k - 2)
 else if x.1 = 6 then loopI cs (k + 1)
 else if x.1 = 13 then insideI cs es b k x.2.1
 else if x.1 = 11 then insideI cs es b k x.2.2
 else if x.1 = 14 then markI cs k
 else if x.1 = 15 then markI cs (k - 2)
 else true
def ascI (es : List Int) (i : Nat) : Bool := decide (es.getD i 0 < es.getD (i + 1) 0)
def frameI (cs : List Ins) (es : List Int) : Bool :=
 !(decide (700 < (cs.length : Int)) || ((es.length : Int) == 0) || !(es.getD 0 0 == 2) || !isO cs 0 9 || !isO cs 1 17) && allFrom (ascI es) (es.length - 1) 0 && ((insAt cs 0).2.1 == es.getD (es.length - 1) 0)
def rowI (cs : List Ins) (es : List Int) (b : Nat) : Nat → Int → Bool
 | 0, _ => true
 | f + 1, k => placeI cs es b k && rowI cs es b f (k + 1)
def blockI (cs : List Ins) (es : List Int) (b : Nat) : Bool :=
 isO cs (endOf cs es b - 1) 10 && rowI cs es b (endOf cs es b - es.getD b 0).toNat (es.getD b 0)
def safeI (cs : List Ins) (es : List Int) : Bool :=
 frameI cs es && allFrom (fun i => insI cs (i : Int)) cs.length 0 && allFrom (blockI cs es) es.length 0
def needI (cs : List Ins) (es : List Int) (b : Nat) (k : Int) (l : List Int) : List Int :=
 if (insAt cs k).1 = 9 then l.set b (max (l.getD b 0) ((1 + l.getD (blockOf es (insAt cs k).2.1).toNat 0) + (if (insAt cs (k - 1)).1 = 7 then 1 else 0))) else l
def needR (cs : List Ins) (es : List Int) (b : Nat) : Nat → Int → List Int → List Int
 | 0, _, l => l
 | f + 1, k, l => needR cs es b f (k + 1) (needI cs es b k l)
def needB (cs : List Ins) (es : List Int) : Nat → List Int
 | 0 => List.replicate es.length 0
 | b + 1 => needR cs es b (endOf cs es b - es.getD b 0).toNat (es.getD b 0) (needB cs es b)
def stackI (cs : List Ins) (es : List Int) : Int := 1 + (needB cs es es.length).getD (es.length - 1) 0
def fitsI (cs : List Ins) (es : List Int) : Bool := safeI cs es && decide (stackI cs es ≤ 60)
theorem opA_at {cs : List Ins} {j : Nat} (hj : j < cs.length) : opA cs (j : Int) = cs[j].1 := by
 unfold opA inB insAt
 rw [decide_eq_true (by omega), decide_eq_true (by omega)]; simp [hj]
theorem opA_out {cs : List Ins} {k : Int} (h : ¬ (0 ≤ k ∧ k ≤ (cs.length : Int) - 1)) : opA cs k = 0 := by
 unfold opA inB
 rcases (by omega : ¬ 0 ≤ k ∨ ¬ k ≤ (cs.length : Int) - 1) with h | h
 ·rw [decide_eq_false h]; rfl
 ·rw [decide_eq_false h, Bool.and_false]; rfl
theorem isO_in {cs : List Ins} {k op : Int} (h : isO cs k op = true) (ho : op ≠ 0) : ∃ j : Nat, ∃ _ : j < cs.length, k = (j : Int) := by
 unfold isO at h
 rw [beq_iff_eq] at h
 by_cases hk : 0 ≤ k ∧ k ≤ (cs.length : Int) - 1
 ·exact ⟨k.toNat, by omega, by omega⟩
 ·rw [opA_out hk] at h; exact absurd h.symm ho
theorem idxB_in {cs : List Ins} {k : Int} (h : idxB cs k = true) : ∃ j : Nat, ∃ _ : j < cs.length, k = (j : Int) := by
 unfold idxB inB at h
 simp only [Bool.and_eq_true, decide_eq_true_eq] at h
 exact ⟨k.toNat, by omega, by omega⟩
theorem safeI_parts {cs : List Ins} {es : List Int} (h : safeI cs es = true) : frameI cs es = true ∧ (∀ j, j < cs.length → insI cs (j : Int) = true) ∧ ∀ b, b < es.length → blockI cs es b = true := by
 unfold safeI at h
 simp only [Bool.and_eq_true] at h
 exact ⟨h.1.1, fun j hj => allFrom_at (p := fun i => insI cs (i : Int)) h.1.2 j (Nat.zero_le _) (by omega), fun b hb => allFrom_at h.2 b (Nat.zero_le _) (by omega)⟩
theorem insI_op {cs : List Ins} {k : Int} (h : insI cs k = true) : (1 ≤ (insAt cs k).1 ∧ (insAt cs k).1 ≤ 17) ∧ ((insAt cs k).1 = 1 → 1 ≤ (insAt cs k).2.1 ∧ (insAt cs k).2.1 ≤ 4) := by
 unfold insI at h
 dsimp only at h
 generalize insAt cs k = x at *
 simp only [Bool.and_eq_true] at h
 obtain ⟨⟨⟨_, h2⟩, _⟩, h4⟩ := h
 unfold inB at h2
 simp only [Bool.and_eq_true, decide_eq_true_eq] at h2
 refine ⟨h2, fun h1 => ?_⟩
 rw [if_neg (by omega), if_neg (by omega), if_neg (by omega), if_neg (by omega), if_neg (by omega), if_pos h1] at h4
 unfold inB at h4
 simp only [Bool.and_eq_true, decide_eq_true_eq] at h4
 exact h4.1
theorem fitsI_op {cs : List Ins} {es : List Int} (h : fitsI cs es = true) (j : Nat) (hj : j < cs.length) : (1 ≤ (insAt cs (j : Int)).1 ∧ (insAt cs (j : Int)).1 ≤ 17) ∧ ((insAt cs (j : Int)).1 = 1 → 1 ≤ (insAt cs (j : Int)).2.1 ∧ (insAt cs (j : Int)).2.1 ≤ 4) := by
 unfold fitsI at h
 rw [Bool.and_eq_true] at h
 exact insI_op ((safeI_parts h.1).2.1 j hj)
theorem frameI_facts {cs : List Ins} {es : List Int} (h : frameI cs es = true) : cs.length ≤ 700 ∧ 0 < es.length ∧ es.getD 0 0 = 2 ∧ isO cs 0 9 = true ∧ isO cs 1 17 = true ∧ (∀ i, i + 1 < es.length → es.getD i 0 < es.getD (i + 1) 0) := by
 unfold frameI at h
 simp only [Bool.and_eq_true, Bool.not_eq_true', Bool.or_eq_false_iff, decide_eq_false_iff_not, Bool.not_eq_false', beq_eq_false_iff_ne, beq_iff_eq] at h
 obtain ⟨⟨⟨⟨⟨⟨h1, h2⟩, h3⟩, h4⟩, h5⟩, h6⟩, _⟩ := h
 refine ⟨by omega, by omega, h3, h4, h5, fun i hi => ?_⟩
 have := allFrom_at h6 i (Nat.zero_le _) (by omega)
 unfold ascI at this
 simpa using this
theorem frameI_asc {cs : List Ins} {es : List Int} (h : frameI cs es = true) : ∀ i, i < es.length → 2 + (i : Int) ≤ es.getD i 0
 | 0, _ => by have := (frameI_facts h).2.2.1; omega
 | i + 1, hi => by
  have h1 := frameI_asc h i (by omega)
  have h2 := (frameI_facts h).2.2.2.2.2 i hi
  omega
end Go.Proofs.YtpmcofmdjckijaaGreat
namespace Go.Proofs.YtpmcofmdjckijaaGreat
open Go.RowKit
def Mach.rdInt (m : Mach) (x : Ins) (b : Int) : Mach :=
 (({ m with reg := if x.2.2 = 1 then wrap64 (m.reg + wrap64 (b * 2 ^ (8 * (x.2.1 - m.left - 1)).toNat)) else wrap64 (wrap64 (256 * m.reg) + b) }) : Mach).skip
def Mach.rdFlag (m : Mach) (x : Ins) (b : Int) : Mach :=
 if 1 < b then m.fail 4 else if m.left = 0 then { m with started := false, pc := if b = 0 then x.2.1 else wrap64 (m.pc + 1) } else m
def Mach.rdUntil (m : Mach) (x : Ins) (b : Int) : Mach :=
 if m.escaped = false ∧ b = x.2.1 then m.skip else { m with left := 1, escaped := !m.escaped && b == 92 }
def Mach.rdMatch (m : Mach) (x : Ins) (b : Int) : Mach := if b = x.2.1 then m.skip else m.fail 2
def Mach.rd (m : Mach) (x : Ins) (b : Int) : Mach :=
 if x.1 = 1 then m.rdInt x b else if x.1 = 13 then m.rdFlag x b else if x.1 = 16 then m.rdUntil x b else if x.1 = 2 then m.rdMatch x b else m.skip
theorem skip_done {m : Mach} (h : m.state = 0) : m.done (wrap64 (m.pc + 1)) = m.skip := by
 unfold Mach.done Mach.skip
 by_cases hl : m.left = 0
 ·rw [if_pos ⟨h, hl⟩, if_pos hl]
 ·rw [if_neg (fun hh => hl hh.2), if_neg hl]
theorem skip_doneR {m : Mach} (h : m.state = 0) (r : Int) : ({ m with reg := r } : Mach).done (wrap64 (m.pc + 1)) = ({ m with reg := r } : Mach).skip := skip_done (m := { m with reg := r }) h
theorem rd_take {m : Mach} (h : m.state = 0) (x : Ins) (b : Int) : m.rd x b = m.take x b := by
 unfold Mach.rd Mach.take Mach.mid
 by_cases h1 : x.1 = 1
 ·rw [if_pos h1, if_pos h1]
  unfold Mach.rdInt
  show _ = Mach.done _ _
  by_cases hz : x.2.2 = 1
  ·rw [if_pos hz, if_pos hz]
   rw [show 8 * (x.2.1 - m.left - 1) = 8 * (x.2.1 - 1 - m.left) by omega]
   exact (skip_doneR h _).symm
  ·rw [if_neg hz, if_neg hz, show 256 * m.reg = m.reg * 256 by omega]
   exact (skip_doneR h _).symm
 rw [if_neg h1, if_neg h1]
 by_cases h13 : x.1 = 13
 ·rw [if_pos h13, if_neg (by omega), if_pos h13]
  unfold Mach.rdFlag
  show _ = Mach.done _ _
  by_cases hb : 1 < b
  ·rw [if_pos hb, if_pos hb]; unfold Mach.done; rw [if_neg (fun hh => absurd hh.1 (by show ¬ (2 : Int) = 0; decide))]
  ·rw [if_neg hb, if_neg hb]; unfold Mach.done
   by_cases hl : m.left = 0
   ·rw [if_pos hl, if_pos (show m.state = 0 ∧ m.left = 0 from ⟨h, hl⟩)]
   ·rw [if_neg hl, if_neg (show ¬ (m.state = 0 ∧ m.left = 0) from fun hh => hl hh.2)]
 rw [if_neg h13]
 by_cases h16 : x.1 = 16
 ·rw [if_pos h16, if_neg (by omega), if_neg h13, if_pos h16]
  unfold Mach.rdUntil
  show _ = Mach.done _ _
  by_cases hu : m.escaped = false ∧ b = x.2.1
  ·rw [if_pos hu, if_neg (by rw [hu.1]; intro hh; rcases hh with hh | hh; cases hh; exact hh hu.2)]
   exact (skip_done h).symm
  ·rw [if_neg hu, if_pos (by
    cases he : m.escaped
    ·right; intro hb; exact hu ⟨he, hb⟩
    ·left; rfl)]
   unfold Mach.done
   rw [if_neg (fun hh => absurd hh.2 (by show ¬ (1 : Int) = 0; decide))]
 rw [if_neg h16]
 by_cases h2 : x.1 = 2
 ·rw [if_pos h2, if_pos h2]
  unfold Mach.rdMatch
  show _ = Mach.done _ _
  by_cases hb : b = x.2.1
  ·rw [if_pos hb, if_pos hb]; exact (skip_done h).symm
  ·rw [if_neg hb, if_neg hb]; unfold Mach.done; rw [if_neg (fun hh => absurd hh.1 (by show ¬ (2 : Int) = 0; decide))]
 ·rw [if_neg h2, if_neg h2, if_neg h13, if_neg h16]
  exact (skip_done h).symm
end Go.Proofs.YtpmcofmdjckijaaGreat
