/- Texts, laid into one. -/
import Derived.Test.YtpmcofmdjckijaaGreatZPb38
set_option linter.unusedVariables false
set_option linter.unusedSimpArgs false
set_option maxRecDepth 100000
set_option maxHeartbeats 16000000
namespace Go.Proofs.YtpmcofmdjckijaaGreat
open Go.RowKit Go.Sort
theorem sReadM_c (X : Nat → Prop) (W0 : World) (p : Nat) (m : Mach) (x : Ins) (b : Int) (w : World) (h : MV X W0 w p m) (hi : x.1 = 1 → 1 ≤ x.2.1 ∧ x.2.1 ≤ 4 ∧ 0 ≤ m.left ∧ m.left + 1 ≤ x.2.1) (hb : 0 ≤ b ∧ b ≤ 255) :
 Calls Tryz.prog 134 #[.pointer (some ⟨p, 0, none⟩), .agg #[.int .i64 x.1, .int .i64 x.2.1, .int .i64 x.2.2], .int .i64 b] w fun e w' => e = .returned (.tuple #[]) ∧ MV X W0 w' p (m.take x b) ∧ MR X w w' := by
 obtain ⟨vs, vq, hB⟩ := h
 obtain ⟨W1, hW1⟩ : ∃ W, Hid (W = w.alloc (.cells #[.int .i64 x.1, .int .i64 x.2.1, .int .i64 x.2.2] 79)) := ⟨_, rfl⟩
 have e1 : Ext w W1 := ka hW1
 have HB : Hid (MB (fun k => X k ∨ k = w.heap.size) W0 W1 p m vs vq) := by rw [hW1.out]; exact hB.guard _
 have HR1 : Hid (MR X w W1) := MR.of_ext e1 hB.low
 have HXW : Hid (∀ k, X k → X k ∨ k = w.heap.size) := fun k hk => .inl hk
 have hbi : Box W1 w.heap.size #[.int .i64 x.1, .int .i64 x.2.1, .int .i64 x.2.2] 79 := kb hW1
 have CF := Lib.hid (fun (c : Int) w' h => sFail_c (fun k => X k ∨ k = w.heap.size) W0 p m c w' h)
 have i0 : ∀ w', Ext W1 w' → w'.cell? ⟨w.heap.size, 0, none⟩ = some (.int .i64 x.1) := fun w' e => hbi.at 0 w' e
 have i1 : ∀ w', Ext W1 w' → w'.cell? ⟨w.heap.size, 1, none⟩ = some (.int .i64 x.2.1) := fun w' e => hbi.at 1 w' e
 have i2 : ∀ w', Ext W1 w' → w'.cell? ⟨w.heap.size, 2, none⟩ = some (.int .i64 x.2.2) := fun w' e => hbi.at 2 w' e
 have r0 : ∀ w', Ext W1 w' → w'.cell? ⟨p, 0, none⟩ = some (.int .i64 m.pc) := fun w' e => HB.out.box.at 0 w' e
 have r1 : ∀ w', Ext W1 w' → w'.cell? ⟨p, 1, none⟩ = some (.int .i64 m.reg) := fun w' e => HB.out.box.at 1 w' e
 have r4 : ∀ w', Ext W1 w' → w'.cell? ⟨p, 4, none⟩ = some (.int .i64 m.left) := fun w' e => HB.out.box.at 4 w' e
 have r6 : ∀ w', Ext W1 w' → w'.cell? ⟨p, 6, none⟩ = some (.bool m.escaped) := fun w' e => HB.out.box.at 6 w' e
 have hpl : p < w.heap.size := hB.box.lt
 have hne : p ≠ w.heap.size := by omega
 have hne' : w.heap.size ≠ p := by omega
 have HTK : Hid (m.take x b = (m.mid x b).1.done (m.mid x b).2) := rfl
 obtain ⟨o, a, z⟩ := x
 dsimp only at *
 have j0 := i0 W1 (Ext.refl _); have j3 := r0 W1 (Ext.refl _)
 rw [hW1.out] at j0 j3
 go_enter Tryz.func134, Tryz.ntmps134
 go_upto_if 14 with (fail)
 rw [← hW1.out]
 have hbi' := hbi
 clear j0 j3 hB hbi e1
 by_cases h1 : o = 1
 ·subst h1
  have HMM : ∀ q, (if z = 1 then { m with reg := wrap64 (m.reg + wrap64 (b * 2 ^ (8 * (a - 1 - m.left)).toNat)) } else { m with reg := wrap64 (wrap64 (m.reg * 256) + b) }) = q → Hid (m.mid (1, a, z) b = (q, wrap64 (m.pc + 1))) := by
   intro q hq; show _ = _; unfold Mach.mid; rw [if_pos rfl]; show (_, _) = _; rw [← hq]
  have hw1 : IntKind.i64.wrap (a - 1) = a - 1 := IntWalk.i64_in _ (by have := hi rfl; omega)
  have hw2 : IntKind.i64.wrap (a - 1 - m.left) = a - 1 - m.left := IntWalk.i64_in _ (by have := hi rfl; omega)
  have hw3 : IntKind.i64.wrap (8 * (a - 1 - m.left)) = 8 * (a - 1 - m.left) := IntWalk.i64_in _ (by have := hi rfl; omega)
  have hsh : 0 ≤ a - 1 - m.left ∧ a - 1 - m.left ≤ 3 := by have := hi rfl; omega
  by_cases hz : z = 1
  ·subst hz
   have HMID := HMM _ (if_pos rfl)
   clear HMM
   go_wp2_with fail
   refine region_qtail_below 19 (by kernel_rfl) (by kernel_rfl) ?_
   simp only [List.take_succ_cons, List.take_zero, List.drop_succ_cons, List.drop_zero]
   repeat (go_big_quiet_step (fail))
   refine wpQuiet_nil ?_
   rintro w4 ⟨⟨nq, osq⟩, hq⟩
   have e4 := ext_of_q hq
   clear hq nq osq
   have HB4 := Lib.hid (HB.out.next e4)
   have HR4 := Lib.hid (HR1.out.trans ((MR.of_ext e4 HB.out.low).weak HXW.out))
   have f1 := HB4.out.box.free 1
   have f1' : w4.frozen? ⟨p, 1, none⟩ = false := f1
   have hB5 := HB4.out.put (m' := { m with reg := wrap64 (m.reg + wrap64 (b * 2 ^ (8 * (a - 1 - m.left)).toNat)) }) 1 (.int .i64 (wrap64 (m.reg + wrap64 (b * 2 ^ (8 * (a - 1 - m.left)).toNat)))) rfl rfl rfl
   have hR5 := HR4.out.trans (((MR.set (i := 1) (Value.int .i64 (wrap64 (m.reg + wrap64 (b * 2 ^ (8 * (a - 1 - m.left)).toNat)))) HB.out.xp)).weak HXW.out)
   obtain ⟨w5, hw5⟩ : ∃ W, Hid (W = w4.setCell ⟨p, 1, none⟩ (.int .i64 (wrap64 (m.reg + wrap64 (b * 2 ^ (8 * (a - 1 - m.left)).toNat))))) := ⟨_, rfl⟩
   rw [← hw5.out] at hB5 hR5
   have HB5 := Lib.hid hB5; have HR5 := Lib.hid hR5
   clear hB5 hR5 f1
   go_upto_region 19 with (fail)
   rw [← hw5.out]
   clear i0 i1 i2 r0 r1 r4 r6 f1'
   have HTQ : Hid (m.take (1, a, 1) b = ({ m with reg := wrap64 (m.reg + wrap64 (b * 2 ^ (8 * (a - 1 - m.left)).toNat)) }).done (wrap64 (m.pc + 1))) := by show _ = _; rw [HTK.out, HMID.out]
   have s7 : (w5).cell? ⟨p, 7, none⟩ = some (.int .i64 ({ m with reg := wrap64 (m.reg + wrap64 (b * 2 ^ (8 * (a - 1 - m.left)).toNat)) }).state) := HB5.out.box.cell 7
   have s4 : (w5).cell? ⟨p, 4, none⟩ = some (.int .i64 ({ m with reg := wrap64 (m.reg + wrap64 (b * 2 ^ (8 * (a - 1 - m.left)).toNat)) }).left) := HB5.out.box.cell 4
   have s5 : (w5).cell? ⟨p, 5, none⟩ = some (.bool ({ m with reg := wrap64 (m.reg + wrap64 (b * 2 ^ (8 * (a - 1 - m.left)).toNat)) }).started) := HB5.out.box.cell 5
   have s0 : (w5).cell? ⟨p, 0, none⟩ = some (.int .i64 ({ m with reg := wrap64 (m.reg + wrap64 (b * 2 ^ (8 * (a - 1 - m.left)).toNat)) }).pc) := HB5.out.box.cell 0
   have f5 := HB5.out.box.free 5; have f0 := HB5.out.box.free 0
   have HRQ := Lib.hid (HR5.out)
   by_cases A7 : ({ m with reg := wrap64 (m.reg + wrap64 (b * 2 ^ (8 * (a - 1 - m.left)).toNat)) }).state = 0
   ·by_cases A4 : ({ m with reg := wrap64 (m.reg + wrap64 (b * 2 ^ (8 * (a - 1 - m.left)).toNat)) }).left = 0
    ·have HD : Hid (m.take (1, a, 1) b = { ({ m with reg := wrap64 (m.reg + wrap64 (b * 2 ^ (8 * (a - 1 - m.left)).toNat)) }) with started := false, pc := wrap64 (m.pc + 1) }) := by show _ = _; rw [HTQ.out, Mach.done, if_pos ⟨A7, A4⟩]
     have HBE := Lib.hid (((HB5.out.put (m' := { ({ m with reg := wrap64 (m.reg + wrap64 (b * 2 ^ (8 * (a - 1 - m.left)).toNat)) }) with started := false }) 5 (.bool false) rfl rfl rfl).put (m' := { ({ m with reg := wrap64 (m.reg + wrap64 (b * 2 ^ (8 * (a - 1 - m.left)).toNat)) }) with started := false, pc := wrap64 (m.pc + 1) }) 0 (.int .i64 (wrap64 (m.pc + 1))) rfl rfl rfl).weak HXW.out)
     have HRE := Lib.hid (HRQ.out.trans ((MR.set (i := 5) (Value.bool false) HBE.out.xp).trans (MR.set (i := 0) (Value.int .i64 (wrap64 (m.pc + 1))) HBE.out.xp)))
     rw [A7] at s7; rw [A4] at s4
     rw [← HD.out] at HBE
     clear HTQ HTK HMID
     go_wp2
     first
      | exact bodyPost_end (results_none rfl _ _ _) rfl ⟨rfl, ⟨_, _, HBE.out⟩, HRE.out⟩
      | exact bodyPost_ret (results_none rfl _ _ _) rfl ⟨rfl, ⟨_, _, HBE.out⟩, HRE.out⟩
    ·have HD : Hid (m.take (1, a, 1) b = { m with reg := wrap64 (m.reg + wrap64 (b * 2 ^ (8 * (a - 1 - m.left)).toNat)) }) := by show _ = _; rw [HTQ.out, Mach.done, if_neg (by simp [A4])]
     have HBE := Lib.hid (HB5.out.weak HXW.out)
     have HRE := HRQ
     have A4b : (({ m with reg := wrap64 (m.reg + wrap64 (b * 2 ^ (8 * (a - 1 - m.left)).toNat)) }).left == 0) = false := by simp [A4]
     rw [A7] at s7
     rw [← HD.out] at HBE
     clear HTQ HTK HMID
     go_wp2
     first
      | exact bodyPost_end (results_none rfl _ _ _) rfl ⟨rfl, ⟨_, _, HBE.out⟩, HRE.out⟩
      | exact bodyPost_ret (results_none rfl _ _ _) rfl ⟨rfl, ⟨_, _, HBE.out⟩, HRE.out⟩
   ·have HD : Hid (m.take (1, a, 1) b = { m with reg := wrap64 (m.reg + wrap64 (b * 2 ^ (8 * (a - 1 - m.left)).toNat)) }) := by show _ = _; rw [HTQ.out, Mach.done, if_neg (by simp [A7])]
    have HBE := Lib.hid (HB5.out.weak HXW.out)
    have HRE := HRQ
    have A7b : (({ m with reg := wrap64 (m.reg + wrap64 (b * 2 ^ (8 * (a - 1 - m.left)).toNat)) }).state == 0) = false := by simp [A7]
    rw [← HD.out] at HBE
    clear HTQ HTK HMID
    go_wp2
    first
     | exact bodyPost_end (results_none rfl _ _ _) rfl ⟨rfl, ⟨_, _, HBE.out⟩, HRE.out⟩
     | exact bodyPost_ret (results_none rfl _ _ _) rfl ⟨rfl, ⟨_, _, HBE.out⟩, HRE.out⟩
  ·have HMID := HMM _ (if_neg hz)
   have hzb : (z == 1) = false := by simp [hz]
   clear HMM
   have f1 := HB.out.box.free 1
   have f1' : W1.frozen? ⟨p, 1, none⟩ = false := f1
   have hB5 := HB.out.put (m' := { m with reg := wrap64 (wrap64 (m.reg * 256) + b) }) 1 (.int .i64 (wrap64 (wrap64 (m.reg * 256) + b))) rfl rfl rfl
   have hR5 := HR1.out.trans (((MR.set (i := 1) (Value.int .i64 (wrap64 (wrap64 (m.reg * 256) + b))) HB.out.xp)).weak HXW.out)
   obtain ⟨w5, hw5⟩ : ∃ W, Hid (W = W1.setCell ⟨p, 1, none⟩ (.int .i64 (wrap64 (wrap64 (m.reg * 256) + b)))) := ⟨_, rfl⟩
   rw [← hw5.out] at hB5 hR5
   have HB5 := Lib.hid hB5; have HR5 := Lib.hid hR5
   clear hB5 hR5 f1
   go_upto_region 19 with (fail)
   rw [← hw5.out]
   clear i0 i1 i2 r0 r1 r4 r6 f1'
   have HTQ : Hid (m.take (1, a, z) b = ({ m with reg := wrap64 (wrap64 (m.reg * 256) + b) }).done (wrap64 (m.pc + 1))) := by show _ = _; rw [HTK.out, HMID.out]
   have s7 : (w5).cell? ⟨p, 7, none⟩ = some (.int .i64 ({ m with reg := wrap64 (wrap64 (m.reg * 256) + b) }).state) := HB5.out.box.cell 7
   have s4 : (w5).cell? ⟨p, 4, none⟩ = some (.int .i64 ({ m with reg := wrap64 (wrap64 (m.reg * 256) + b) }).left) := HB5.out.box.cell 4
   have s5 : (w5).cell? ⟨p, 5, none⟩ = some (.bool ({ m with reg := wrap64 (wrap64 (m.reg * 256) + b) }).started) := HB5.out.box.cell 5
   have s0 : (w5).cell? ⟨p, 0, none⟩ = some (.int .i64 ({ m with reg := wrap64 (wrap64 (m.reg * 256) + b) }).pc) := HB5.out.box.cell 0
   have f5 := HB5.out.box.free 5; have f0 := HB5.out.box.free 0
   have HRQ := Lib.hid (HR5.out)
   by_cases A7 : ({ m with reg := wrap64 (wrap64 (m.reg * 256) + b) }).state = 0
   ·by_cases A4 : ({ m with reg := wrap64 (wrap64 (m.reg * 256) + b) }).left = 0
    ·have HD : Hid (m.take (1, a, z) b = { ({ m with reg := wrap64 (wrap64 (m.reg * 256) + b) }) with started := false, pc := wrap64 (m.pc + 1) }) := by show _ = _; rw [HTQ.out, Mach.done, if_pos ⟨A7, A4⟩]
     have HBE := Lib.hid (((HB5.out.put (m' := { ({ m with reg := wrap64 (wrap64 (m.reg * 256) + b) }) with started := false }) 5 (.bool false) rfl rfl rfl).put (m' := { ({ m with reg := wrap64 (wrap64 (m.reg * 256) + b) }) with started := false, pc := wrap64 (m.pc + 1) }) 0 (.int .i64 (wrap64 (m.pc + 1))) rfl rfl rfl).weak HXW.out)
     have HRE := Lib.hid (HRQ.out.trans ((MR.set (i := 5) (Value.bool false) HBE.out.xp).trans (MR.set (i := 0) (Value.int .i64 (wrap64 (m.pc + 1))) HBE.out.xp)))
     rw [A7] at s7; rw [A4] at s4
     rw [← HD.out] at HBE
     clear HTQ HTK HMID
     go_wp2
     first
      | exact bodyPost_end (results_none rfl _ _ _) rfl ⟨rfl, ⟨_, _, HBE.out⟩, HRE.out⟩
      | exact bodyPost_ret (results_none rfl _ _ _) rfl ⟨rfl, ⟨_, _, HBE.out⟩, HRE.out⟩
    ·have HD : Hid (m.take (1, a, z) b = { m with reg := wrap64 (wrap64 (m.reg * 256) + b) }) := by show _ = _; rw [HTQ.out, Mach.done, if_neg (by simp [A4])]
     have HBE := Lib.hid (HB5.out.weak HXW.out)
     have HRE := HRQ
     have A4b : (({ m with reg := wrap64 (wrap64 (m.reg * 256) + b) }).left == 0) = false := by simp [A4]
     rw [A7] at s7
     rw [← HD.out] at HBE
     clear HTQ HTK HMID
     go_wp2
     first
      | exact bodyPost_end (results_none rfl _ _ _) rfl ⟨rfl, ⟨_, _, HBE.out⟩, HRE.out⟩
      | exact bodyPost_ret (results_none rfl _ _ _) rfl ⟨rfl, ⟨_, _, HBE.out⟩, HRE.out⟩
   ·have HD : Hid (m.take (1, a, z) b = { m with reg := wrap64 (wrap64 (m.reg * 256) + b) }) := by show _ = _; rw [HTQ.out, Mach.done, if_neg (by simp [A7])]
    have HBE := Lib.hid (HB5.out.weak HXW.out)
    have HRE := HRQ
    have A7b : (({ m with reg := wrap64 (wrap64 (m.reg * 256) + b) }).state == 0) = false := by simp [A7]
    rw [← HD.out] at HBE
    clear HTQ HTK HMID
    go_wp2
    first
     | exact bodyPost_end (results_none rfl _ _ _) rfl ⟨rfl, ⟨_, _, HBE.out⟩, HRE.out⟩
     | exact bodyPost_ret (results_none rfl _ _ _) rfl ⟨rfl, ⟨_, _, HBE.out⟩, HRE.out⟩
 have n1 : (o == 1) = false := by simp [h1]
 by_cases h2 : o = 2
 ·subst h2
  have HMM : ∀ q, (if b = a then m else m.fail 2) = q → Hid (m.mid (2, a, z) b = (q, wrap64 (m.pc + 1))) := by
   intro q hq; show _ = _; unfold Mach.mid; rw [if_neg (by show ¬ (2 : Int) = 1; decide), if_pos rfl]; show (_, _) = _; rw [← hq]
  by_cases hba : b = a
  ·have hb1 : (b != a) = false := by simp [hba]
   have HMID := HMM m (if_pos hba)
   clear HMM hba
   have HTQ : Hid (m.take (2, a, z) b = (m).done (wrap64 (m.pc + 1))) := by show _ = _; rw [HTK.out, HMID.out]
   have s7 : (W1).cell? ⟨p, 7, none⟩ = some (.int .i64 (m).state) := HB.out.box.cell 7
   have s4 : (W1).cell? ⟨p, 4, none⟩ = some (.int .i64 (m).left) := HB.out.box.cell 4
   have s5 : (W1).cell? ⟨p, 5, none⟩ = some (.bool (m).started) := HB.out.box.cell 5
   have s0 : (W1).cell? ⟨p, 0, none⟩ = some (.int .i64 (m).pc) := HB.out.box.cell 0
   have f5 := HB.out.box.free 5; have f0 := HB.out.box.free 0
   have HRQ := Lib.hid (HR1.out)
   by_cases A7 : (m).state = 0
   ·by_cases A4 : (m).left = 0
    ·have HD : Hid (m.take (2, a, z) b = { (m) with started := false, pc := wrap64 (m.pc + 1) }) := by show _ = _; rw [HTQ.out, Mach.done, if_pos ⟨A7, A4⟩]
     have HBE := Lib.hid (((HB.out.put (m' := { (m) with started := false }) 5 (.bool false) rfl rfl rfl).put (m' := { (m) with started := false, pc := wrap64 (m.pc + 1) }) 0 (.int .i64 (wrap64 (m.pc + 1))) rfl rfl rfl).weak HXW.out)
     have HRE := Lib.hid (HRQ.out.trans ((MR.set (i := 5) (Value.bool false) HBE.out.xp).trans (MR.set (i := 0) (Value.int .i64 (wrap64 (m.pc + 1))) HBE.out.xp)))
     rw [A7] at s7; rw [A4] at s4
     rw [← HD.out] at HBE
     clear HTQ HTK HMID
     go_wp2
     first
      | exact bodyPost_end (results_none rfl _ _ _) rfl ⟨rfl, ⟨_, _, HBE.out⟩, HRE.out⟩
      | exact bodyPost_ret (results_none rfl _ _ _) rfl ⟨rfl, ⟨_, _, HBE.out⟩, HRE.out⟩
    ·have HD : Hid (m.take (2, a, z) b = m) := by show _ = _; rw [HTQ.out, Mach.done, if_neg (by simp [A4])]
     have HBE := Lib.hid (HB.out.weak HXW.out)
     have HRE := HRQ
     have A4b : ((m).left == 0) = false := by simp [A4]
     rw [A7] at s7
     rw [← HD.out] at HBE
     clear HTQ HTK HMID
     go_wp2
     first
      | exact bodyPost_end (results_none rfl _ _ _) rfl ⟨rfl, ⟨_, _, HBE.out⟩, HRE.out⟩
      | exact bodyPost_ret (results_none rfl _ _ _) rfl ⟨rfl, ⟨_, _, HBE.out⟩, HRE.out⟩
   ·have HD : Hid (m.take (2, a, z) b = m) := by show _ = _; rw [HTQ.out, Mach.done, if_neg (by simp [A7])]
    have HBE := Lib.hid (HB.out.weak HXW.out)
    have HRE := HRQ
    have A7b : ((m).state == 0) = false := by simp [A7]
    rw [← HD.out] at HBE
    clear HTQ HTK HMID
    go_wp2
    first
     | exact bodyPost_end (results_none rfl _ _ _) rfl ⟨rfl, ⟨_, _, HBE.out⟩, HRE.out⟩
     | exact bodyPost_ret (results_none rfl _ _ _) rfl ⟨rfl, ⟨_, _, HBE.out⟩, HRE.out⟩
  ·have hb1 : (b != a) = true := by simp [hba]
   have HMID := HMM (m.fail 2) (if_neg hba)
   clear HMM hba
   go_wp2_with fail
   refine (CF.out 2 _ ⟨_, _, HB.out⟩).mono ?_; rintro _ w5 ⟨rfl, ⟨vs5, vq5, hm5⟩, hr5⟩
   have HB5 := Lib.hid hm5
   have HR5 := Lib.hid (HR1.out.trans (hr5.weak HXW.out))
   have q0 : ∀ w', Ext w5 w' → w'.cell? ⟨w.heap.size, 0, none⟩ = some (.int .i64 2) := fun w' e => by rw [Below.cell e (HB5.out.low _ (.inr rfl)), MR.cell hr5 (.inr rfl)]; exact i0 W1 (Ext.refl _)
   have q1 : ∀ w', Ext w5 w' → w'.cell? ⟨w.heap.size, 1, none⟩ = some (.int .i64 a) := fun w' e => by rw [Below.cell e (HB5.out.low _ (.inr rfl)), MR.cell hr5 (.inr rfl)]; exact i1 W1 (Ext.refl _)
   have q0' := q0 w5 (Ext.refl _); have q1' := q1 w5 (Ext.refl _)
   clear hm5 hr5 i0 i1 i2 r0 r1 r4 r6
   have HTQ : Hid (m.take (2, a, z) b = (m.fail 2).done (wrap64 (m.pc + 1))) := by show _ = _; rw [HTK.out, HMID.out]
   have s7 : (w5).cell? ⟨p, 7, none⟩ = some (.int .i64 (m.fail 2).state) := HB5.out.box.cell 7
   have s4 : (w5).cell? ⟨p, 4, none⟩ = some (.int .i64 (m.fail 2).left) := HB5.out.box.cell 4
   have s5 : (w5).cell? ⟨p, 5, none⟩ = some (.bool (m.fail 2).started) := HB5.out.box.cell 5
   have s0 : (w5).cell? ⟨p, 0, none⟩ = some (.int .i64 (m.fail 2).pc) := HB5.out.box.cell 0
   have f5 := HB5.out.box.free 5; have f0 := HB5.out.box.free 0
   have HRQ := Lib.hid (HR5.out)
   by_cases A7 : (m.fail 2).state = 0
   ·by_cases A4 : (m.fail 2).left = 0
    ·have HD : Hid (m.take (2, a, z) b = { (m.fail 2) with started := false, pc := wrap64 (m.pc + 1) }) := by show _ = _; rw [HTQ.out, Mach.done, if_pos ⟨A7, A4⟩]
     have HBE := Lib.hid (((HB5.out.put (m' := { (m.fail 2) with started := false }) 5 (.bool false) rfl rfl rfl).put (m' := { (m.fail 2) with started := false, pc := wrap64 (m.pc + 1) }) 0 (.int .i64 (wrap64 (m.pc + 1))) rfl rfl rfl).weak HXW.out)
     have HRE := Lib.hid (HRQ.out.trans ((MR.set (i := 5) (Value.bool false) HBE.out.xp).trans (MR.set (i := 0) (Value.int .i64 (wrap64 (m.pc + 1))) HBE.out.xp)))
     rw [A7] at s7; rw [A4] at s4
     rw [← HD.out] at HBE
     clear HTQ HTK HMID
     go_wp2
     first
      | exact bodyPost_end (results_none rfl _ _ _) rfl ⟨rfl, ⟨_, _, HBE.out⟩, HRE.out⟩
      | exact bodyPost_ret (results_none rfl _ _ _) rfl ⟨rfl, ⟨_, _, HBE.out⟩, HRE.out⟩
    ·have HD : Hid (m.take (2, a, z) b = m.fail 2) := by show _ = _; rw [HTQ.out, Mach.done, if_neg (by simp [A4])]
     have HBE := Lib.hid (HB5.out.weak HXW.out)
     have HRE := HRQ
     have A4b : ((m.fail 2).left == 0) = false := by simp [A4]
     rw [A7] at s7
     rw [← HD.out] at HBE
     clear HTQ HTK HMID
     go_wp2
     first
      | exact bodyPost_end (results_none rfl _ _ _) rfl ⟨rfl, ⟨_, _, HBE.out⟩, HRE.out⟩
      | exact bodyPost_ret (results_none rfl _ _ _) rfl ⟨rfl, ⟨_, _, HBE.out⟩, HRE.out⟩
   ·have HD : Hid (m.take (2, a, z) b = m.fail 2) := by show _ = _; rw [HTQ.out, Mach.done, if_neg (by simp [A7])]
    have HBE := Lib.hid (HB5.out.weak HXW.out)
    have HRE := HRQ
    have A7b : ((m.fail 2).state == 0) = false := by simp [A7]
    rw [← HD.out] at HBE
    clear HTQ HTK HMID
    go_wp2
    first
     | exact bodyPost_end (results_none rfl _ _ _) rfl ⟨rfl, ⟨_, _, HBE.out⟩, HRE.out⟩
     | exact bodyPost_ret (results_none rfl _ _ _) rfl ⟨rfl, ⟨_, _, HBE.out⟩, HRE.out⟩
 have n2 : (o == 2) = false := by simp [h2]
 by_cases h13 : o = 13
 ·subst h13
  have HMM : ∀ q nx, (if 1 < b then m.fail 4 else m) = q → (if b = 0 then a else wrap64 (m.pc + 1)) = nx → Hid (m.mid (13, a, z) b = (q, nx)) := by
   intro q nx hq hx; show _ = _; unfold Mach.mid; rw [if_neg (by show ¬ (13 : Int) = 1; decide), if_neg (by show ¬ (13 : Int) = 2; decide), if_pos rfl]; show (_, _) = _; rw [← hq, ← hx]
  by_cases hb2 : 1 < b
  ·have hb1 : decide (1 < b) = true := decide_eq_true hb2
   have hb0 : (b == 0) = false := by simp; omega
   have HMID := HMM (m.fail 4) (wrap64 (m.pc + 1)) (if_pos hb2) (if_neg (by omega))
   clear HMM
   go_wp2_with fail
   refine (CF.out 4 _ ⟨_, _, HB.out⟩).mono ?_; rintro _ w5 ⟨rfl, ⟨vs5, vq5, hm5⟩, hr5⟩
   have HB5 := Lib.hid hm5
   have HR5 := Lib.hid (HR1.out.trans (hr5.weak HXW.out))
   have q0 : ∀ w', Ext w5 w' → w'.cell? ⟨w.heap.size, 0, none⟩ = some (.int .i64 13) := fun w' e => by rw [Below.cell e (HB5.out.low _ (.inr rfl)), MR.cell hr5 (.inr rfl)]; exact i0 W1 (Ext.refl _)
   have q1 : ∀ w', Ext w5 w' → w'.cell? ⟨w.heap.size, 1, none⟩ = some (.int .i64 a) := fun w' e => by rw [Below.cell e (HB5.out.low _ (.inr rfl)), MR.cell hr5 (.inr rfl)]; exact i1 W1 (Ext.refl _)
   have q0' := q0 w5 (Ext.refl _); have q1' := q1 w5 (Ext.refl _)
   clear hm5 hr5 i0 i1 i2 r0 r1 r4 r6
   have HTQ : Hid (m.take (13, a, z) b = (m.fail 4).done (wrap64 (m.pc + 1))) := by show _ = _; rw [HTK.out, HMID.out]
   have s7 : (w5).cell? ⟨p, 7, none⟩ = some (.int .i64 (m.fail 4).state) := HB5.out.box.cell 7
   have s4 : (w5).cell? ⟨p, 4, none⟩ = some (.int .i64 (m.fail 4).left) := HB5.out.box.cell 4
   have s5 : (w5).cell? ⟨p, 5, none⟩ = some (.bool (m.fail 4).started) := HB5.out.box.cell 5
   have s0 : (w5).cell? ⟨p, 0, none⟩ = some (.int .i64 (m.fail 4).pc) := HB5.out.box.cell 0
   have f5 := HB5.out.box.free 5; have f0 := HB5.out.box.free 0
   have HRQ := Lib.hid (HR5.out)
   by_cases A7 : (m.fail 4).state = 0
   ·by_cases A4 : (m.fail 4).left = 0
    ·have HD : Hid (m.take (13, a, z) b = { (m.fail 4) with started := false, pc := wrap64 (m.pc + 1) }) := by show _ = _; rw [HTQ.out, Mach.done, if_pos ⟨A7, A4⟩]
     have HBE := Lib.hid (((HB5.out.put (m' := { (m.fail 4) with started := false }) 5 (.bool false) rfl rfl rfl).put (m' := { (m.fail 4) with started := false, pc := wrap64 (m.pc + 1) }) 0 (.int .i64 (wrap64 (m.pc + 1))) rfl rfl rfl).weak HXW.out)
     have HRE := Lib.hid (HRQ.out.trans ((MR.set (i := 5) (Value.bool false) HBE.out.xp).trans (MR.set (i := 0) (Value.int .i64 (wrap64 (m.pc + 1))) HBE.out.xp)))
     rw [A7] at s7; rw [A4] at s4
     rw [← HD.out] at HBE
     clear HTQ HTK HMID
     go_wp2
     first
      | exact bodyPost_end (results_none rfl _ _ _) rfl ⟨rfl, ⟨_, _, HBE.out⟩, HRE.out⟩
      | exact bodyPost_ret (results_none rfl _ _ _) rfl ⟨rfl, ⟨_, _, HBE.out⟩, HRE.out⟩
    ·have HD : Hid (m.take (13, a, z) b = m.fail 4) := by show _ = _; rw [HTQ.out, Mach.done, if_neg (by simp [A4])]
     have HBE := Lib.hid (HB5.out.weak HXW.out)
     have HRE := HRQ
     have A4b : ((m.fail 4).left == 0) = false := by simp [A4]
     rw [A7] at s7
     rw [← HD.out] at HBE
     clear HTQ HTK HMID
     go_wp2
     first
      | exact bodyPost_end (results_none rfl _ _ _) rfl ⟨rfl, ⟨_, _, HBE.out⟩, HRE.out⟩
      | exact bodyPost_ret (results_none rfl _ _ _) rfl ⟨rfl, ⟨_, _, HBE.out⟩, HRE.out⟩
   ·have HD : Hid (m.take (13, a, z) b = m.fail 4) := by show _ = _; rw [HTQ.out, Mach.done, if_neg (by simp [A7])]
    have HBE := Lib.hid (HB5.out.weak HXW.out)
    have HRE := HRQ
    have A7b : ((m.fail 4).state == 0) = false := by simp [A7]
    rw [← HD.out] at HBE
    clear HTQ HTK HMID
    go_wp2
    first
     | exact bodyPost_end (results_none rfl _ _ _) rfl ⟨rfl, ⟨_, _, HBE.out⟩, HRE.out⟩
     | exact bodyPost_ret (results_none rfl _ _ _) rfl ⟨rfl, ⟨_, _, HBE.out⟩, HRE.out⟩
  have hb1 : decide (1 < b) = false := decide_eq_false hb2
  by_cases hb3 : b = 0
  ·have hb0 : (b == 0) = true := by simp [hb3]
   have HMID := HMM m a (if_neg hb2) (if_pos hb3)
   clear HMM hb2 hb3
   have HTQ : Hid (m.take (13, a, z) b = (m).done (a)) := by show _ = _; rw [HTK.out, HMID.out]
   have s7 : (W1).cell? ⟨p, 7, none⟩ = some (.int .i64 (m).state) := HB.out.box.cell 7
   have s4 : (W1).cell? ⟨p, 4, none⟩ = some (.int .i64 (m).left) := HB.out.box.cell 4
   have s5 : (W1).cell? ⟨p, 5, none⟩ = some (.bool (m).started) := HB.out.box.cell 5
   have s0 : (W1).cell? ⟨p, 0, none⟩ = some (.int .i64 (m).pc) := HB.out.box.cell 0
   have f5 := HB.out.box.free 5; have f0 := HB.out.box.free 0
   have HRQ := Lib.hid (HR1.out)
   by_cases A7 : (m).state = 0
   ·by_cases A4 : (m).left = 0
    ·have HD : Hid (m.take (13, a, z) b = { (m) with started := false, pc := a }) := by show _ = _; rw [HTQ.out, Mach.done, if_pos ⟨A7, A4⟩]
     have HBE := Lib.hid (((HB.out.put (m' := { (m) with started := false }) 5 (.bool false) rfl rfl rfl).put (m' := { (m) with started := false, pc := a }) 0 (.int .i64 (a)) rfl rfl rfl).weak HXW.out)
     have HRE := Lib.hid (HRQ.out.trans ((MR.set (i := 5) (Value.bool false) HBE.out.xp).trans (MR.set (i := 0) (Value.int .i64 (a)) HBE.out.xp)))
     rw [A7] at s7; rw [A4] at s4
     rw [← HD.out] at HBE
     clear HTQ HTK HMID
     go_wp2
     first
      | exact bodyPost_end (results_none rfl _ _ _) rfl ⟨rfl, ⟨_, _, HBE.out⟩, HRE.out⟩
      | exact bodyPost_ret (results_none rfl _ _ _) rfl ⟨rfl, ⟨_, _, HBE.out⟩, HRE.out⟩
    ·have HD : Hid (m.take (13, a, z) b = m) := by show _ = _; rw [HTQ.out, Mach.done, if_neg (by simp [A4])]
     have HBE := Lib.hid (HB.out.weak HXW.out)
     have HRE := HRQ
     have A4b : ((m).left == 0) = false := by simp [A4]
     rw [A7] at s7
     rw [← HD.out] at HBE
     clear HTQ HTK HMID
     go_wp2
     first
      | exact bodyPost_end (results_none rfl _ _ _) rfl ⟨rfl, ⟨_, _, HBE.out⟩, HRE.out⟩
      | exact bodyPost_ret (results_none rfl _ _ _) rfl ⟨rfl, ⟨_, _, HBE.out⟩, HRE.out⟩
   ·have HD : Hid (m.take (13, a, z) b = m) := by show _ = _; rw [HTQ.out, Mach.done, if_neg (by simp [A7])]
    have HBE := Lib.hid (HB.out.weak HXW.out)
    have HRE := HRQ
    have A7b : ((m).state == 0) = false := by simp [A7]
    rw [← HD.out] at HBE
    clear HTQ HTK HMID
    go_wp2
    first
     | exact bodyPost_end (results_none rfl _ _ _) rfl ⟨rfl, ⟨_, _, HBE.out⟩, HRE.out⟩
     | exact bodyPost_ret (results_none rfl _ _ _) rfl ⟨rfl, ⟨_, _, HBE.out⟩, HRE.out⟩
  ·have hb0 : (b == 0) = false := by simp [hb3]
   have HMID := HMM m (wrap64 (m.pc + 1)) (if_neg hb2) (if_neg hb3)
   clear HMM hb2 hb3
   have HTQ : Hid (m.take (13, a, z) b = (m).done (wrap64 (m.pc + 1))) := by show _ = _; rw [HTK.out, HMID.out]
   have s7 : (W1).cell? ⟨p, 7, none⟩ = some (.int .i64 (m).state) := HB.out.box.cell 7
   have s4 : (W1).cell? ⟨p, 4, none⟩ = some (.int .i64 (m).left) := HB.out.box.cell 4
   have s5 : (W1).cell? ⟨p, 5, none⟩ = some (.bool (m).started) := HB.out.box.cell 5
   have s0 : (W1).cell? ⟨p, 0, none⟩ = some (.int .i64 (m).pc) := HB.out.box.cell 0
   have f5 := HB.out.box.free 5; have f0 := HB.out.box.free 0
   have HRQ := Lib.hid (HR1.out)
   by_cases A7 : (m).state = 0
   ·by_cases A4 : (m).left = 0
    ·have HD : Hid (m.take (13, a, z) b = { (m) with started := false, pc := wrap64 (m.pc + 1) }) := by show _ = _; rw [HTQ.out, Mach.done, if_pos ⟨A7, A4⟩]
     have HBE := Lib.hid (((HB.out.put (m' := { (m) with started := false }) 5 (.bool false) rfl rfl rfl).put (m' := { (m) with started := false, pc := wrap64 (m.pc + 1) }) 0 (.int .i64 (wrap64 (m.pc + 1))) rfl rfl rfl).weak HXW.out)
     have HRE := Lib.hid (HRQ.out.trans ((MR.set (i := 5) (Value.bool false) HBE.out.xp).trans (MR.set (i := 0) (Value.int .i64 (wrap64 (m.pc + 1))) HBE.out.xp)))
     rw [A7] at s7; rw [A4] at s4
     rw [← HD.out] at HBE
     clear HTQ HTK HMID
     go_wp2
     first
      | exact bodyPost_end (results_none rfl _ _ _) rfl ⟨rfl, ⟨_, _, HBE.out⟩, HRE.out⟩
      | exact bodyPost_ret (results_none rfl _ _ _) rfl ⟨rfl, ⟨_, _, HBE.out⟩, HRE.out⟩
    ·have HD : Hid (m.take (13, a, z) b = m) := by show _ = _; rw [HTQ.out, Mach.done, if_neg (by simp [A4])]
     have HBE := Lib.hid (HB.out.weak HXW.out)
     have HRE := HRQ
     have A4b : ((m).left == 0) = false := by simp [A4]
     rw [A7] at s7
     rw [← HD.out] at HBE
     clear HTQ HTK HMID
     go_wp2
     first
      | exact bodyPost_end (results_none rfl _ _ _) rfl ⟨rfl, ⟨_, _, HBE.out⟩, HRE.out⟩
      | exact bodyPost_ret (results_none rfl _ _ _) rfl ⟨rfl, ⟨_, _, HBE.out⟩, HRE.out⟩
   ·have HD : Hid (m.take (13, a, z) b = m) := by show _ = _; rw [HTQ.out, Mach.done, if_neg (by simp [A7])]
    have HBE := Lib.hid (HB.out.weak HXW.out)
    have HRE := HRQ
    have A7b : ((m).state == 0) = false := by simp [A7]
    rw [← HD.out] at HBE
    clear HTQ HTK HMID
    go_wp2
    first
     | exact bodyPost_end (results_none rfl _ _ _) rfl ⟨rfl, ⟨_, _, HBE.out⟩, HRE.out⟩
     | exact bodyPost_ret (results_none rfl _ _ _) rfl ⟨rfl, ⟨_, _, HBE.out⟩, HRE.out⟩
 have n13 : (o == 13) = false := by simp [h13]
 by_cases h16 : o = 16
 ·subst h16
  have HMM : ∀ q, (if m.escaped = true ∨ b ≠ a then { m with left := 1, escaped := !m.escaped && b == 92 } else m) = q → Hid (m.mid (16, a, z) b = (q, wrap64 (m.pc + 1))) := by
   intro q hq; show _ = _; unfold Mach.mid; rw [if_neg (by show ¬ (16 : Int) = 1; decide), if_neg (by show ¬ (16 : Int) = 2; decide), if_neg (by show ¬ (16 : Int) = 13; decide), if_pos rfl]; show (_, _) = _; rw [← hq]
  cases hes : m.escaped
  ·have r6b : ∀ w', Ext W1 w' → w'.cell? ⟨p, 6, none⟩ = some (.bool false) := fun w' e => by rw [← hes]; exact r6 w' e
   clear r6
   have r6 := r6b
   by_cases hba : b = a
   ·have hb1 : (b != a) = false := by simp [hba]
    have HMID := HMM m (if_neg (by simp [hes, hba]))
    clear HMM hba r6b hes
    have HTQ : Hid (m.take (16, a, z) b = (m).done (wrap64 (m.pc + 1))) := by show _ = _; rw [HTK.out, HMID.out]
    have s7 : (W1).cell? ⟨p, 7, none⟩ = some (.int .i64 (m).state) := HB.out.box.cell 7
    have s4 : (W1).cell? ⟨p, 4, none⟩ = some (.int .i64 (m).left) := HB.out.box.cell 4
    have s5 : (W1).cell? ⟨p, 5, none⟩ = some (.bool (m).started) := HB.out.box.cell 5
    have s0 : (W1).cell? ⟨p, 0, none⟩ = some (.int .i64 (m).pc) := HB.out.box.cell 0
    have f5 := HB.out.box.free 5; have f0 := HB.out.box.free 0
    have HRQ := Lib.hid (HR1.out)
    by_cases A7 : (m).state = 0
    ·by_cases A4 : (m).left = 0
     ·have HD : Hid (m.take (16, a, z) b = { (m) with started := false, pc := wrap64 (m.pc + 1) }) := by show _ = _; rw [HTQ.out, Mach.done, if_pos ⟨A7, A4⟩]
      have HBE := Lib.hid (((HB.out.put (m' := { (m) with started := false }) 5 (.bool false) rfl rfl rfl).put (m' := { (m) with started := false, pc := wrap64 (m.pc + 1) }) 0 (.int .i64 (wrap64 (m.pc + 1))) rfl rfl rfl).weak HXW.out)
      have HRE := Lib.hid (HRQ.out.trans ((MR.set (i := 5) (Value.bool false) HBE.out.xp).trans (MR.set (i := 0) (Value.int .i64 (wrap64 (m.pc + 1))) HBE.out.xp)))
      rw [A7] at s7; rw [A4] at s4
      rw [← HD.out] at HBE
      clear HTQ HTK HMID
      go_wp2
      first
       | exact bodyPost_end (results_none rfl _ _ _) rfl ⟨rfl, ⟨_, _, HBE.out⟩, HRE.out⟩
       | exact bodyPost_ret (results_none rfl _ _ _) rfl ⟨rfl, ⟨_, _, HBE.out⟩, HRE.out⟩
     ·have HD : Hid (m.take (16, a, z) b = m) := by show _ = _; rw [HTQ.out, Mach.done, if_neg (by simp [A4])]
      have HBE := Lib.hid (HB.out.weak HXW.out)
      have HRE := HRQ
      have A4b : ((m).left == 0) = false := by simp [A4]
      rw [A7] at s7
      rw [← HD.out] at HBE
      clear HTQ HTK HMID
      go_wp2
      first
       | exact bodyPost_end (results_none rfl _ _ _) rfl ⟨rfl, ⟨_, _, HBE.out⟩, HRE.out⟩
       | exact bodyPost_ret (results_none rfl _ _ _) rfl ⟨rfl, ⟨_, _, HBE.out⟩, HRE.out⟩
    ·have HD : Hid (m.take (16, a, z) b = m) := by show _ = _; rw [HTQ.out, Mach.done, if_neg (by simp [A7])]
     have HBE := Lib.hid (HB.out.weak HXW.out)
     have HRE := HRQ
     have A7b : ((m).state == 0) = false := by simp [A7]
     rw [← HD.out] at HBE
     clear HTQ HTK HMID
     go_wp2
     first
      | exact bodyPost_end (results_none rfl _ _ _) rfl ⟨rfl, ⟨_, _, HBE.out⟩, HRE.out⟩
      | exact bodyPost_ret (results_none rfl _ _ _) rfl ⟨rfl, ⟨_, _, HBE.out⟩, HRE.out⟩
   ·have hb1 : (b != a) = true := by simp [hba]
    have HES := Lib.hid hes
    have HMID := HMM { m with left := 1, escaped := (b == 92) } (by rw [if_pos (.inr hba)]; simp [hes])
    clear HMM hba r6b hes
    have f4 := HB.out.box.free 4; have f6 := HB.out.box.free 6
    have r6s : (W1.setCell ⟨p, 4, none⟩ (.int .i64 1)).cell? ⟨p, 6, none⟩ = some (.bool false) := by rw [← HES.out]; exact ((HB.out.put (m' := { m with left := 1 }) 4 (.int .i64 1) rfl rfl rfl)).box.cell 6
    have hB5 := (HB.out.put (m' := { m with left := 1 }) 4 (.int .i64 1) rfl rfl rfl).put (m' := { m with left := 1, escaped := (b == 92) }) 6 (.bool (b == 92)) rfl rfl rfl
    have hR5 := HR1.out.trans (((MR.set (i := 4) (Value.int .i64 1) HB.out.xp).trans (MR.set (i := 6) (Value.bool (b == 92)) HB.out.xp)).weak HXW.out)
    obtain ⟨w5, hw5⟩ : ∃ W, Hid (W = (W1.setCell ⟨p, 4, none⟩ (.int .i64 1)).setCell ⟨p, 6, none⟩ (.bool (b == 92))) := ⟨_, rfl⟩
    rw [← hw5.out] at hB5 hR5
    have HB5 := Lib.hid hB5; have HR5 := Lib.hid hR5
    clear hB5 hR5
    go_upto_region 19 with (fail)
    rw [← hw5.out]
    clear i0 i1 i2 r0 r1 r4 r6 f4 f6
    have HTQ : Hid (m.take (16, a, z) b = ({ m with left := 1, escaped := (b == 92) }).done (wrap64 (m.pc + 1))) := by show _ = _; rw [HTK.out, HMID.out]
    have s7 : (w5).cell? ⟨p, 7, none⟩ = some (.int .i64 ({ m with left := 1, escaped := (b == 92) }).state) := HB5.out.box.cell 7
    have s4 : (w5).cell? ⟨p, 4, none⟩ = some (.int .i64 ({ m with left := 1, escaped := (b == 92) }).left) := HB5.out.box.cell 4
    have s5 : (w5).cell? ⟨p, 5, none⟩ = some (.bool ({ m with left := 1, escaped := (b == 92) }).started) := HB5.out.box.cell 5
    have s0 : (w5).cell? ⟨p, 0, none⟩ = some (.int .i64 ({ m with left := 1, escaped := (b == 92) }).pc) := HB5.out.box.cell 0
    have f5 := HB5.out.box.free 5; have f0 := HB5.out.box.free 0
    have HRQ := Lib.hid (HR5.out)
    by_cases A7 : ({ m with left := 1, escaped := (b == 92) }).state = 0
    ·by_cases A4 : ({ m with left := 1, escaped := (b == 92) }).left = 0
     ·exact absurd A4 (by show ¬ (1 : Int) = 0; decide)
     ·have HD : Hid (m.take (16, a, z) b = { m with left := 1, escaped := (b == 92) }) := by show _ = _; rw [HTQ.out, Mach.done, if_neg (by simp [A4])]
      have HBE := Lib.hid (HB5.out.weak HXW.out)
      have HRE := HRQ
      have A4b : (({ m with left := 1, escaped := (b == 92) }).left == 0) = false := by simp [A4]
      rw [A7] at s7
      rw [← HD.out] at HBE
      clear HTQ HTK HMID
      go_wp2
      first
       | exact bodyPost_end (results_none rfl _ _ _) rfl ⟨rfl, ⟨_, _, HBE.out⟩, HRE.out⟩
       | exact bodyPost_ret (results_none rfl _ _ _) rfl ⟨rfl, ⟨_, _, HBE.out⟩, HRE.out⟩
    ·have HD : Hid (m.take (16, a, z) b = { m with left := 1, escaped := (b == 92) }) := by show _ = _; rw [HTQ.out, Mach.done, if_neg (by simp [A7])]
     have HBE := Lib.hid (HB5.out.weak HXW.out)
     have HRE := HRQ
     have A7b : (({ m with left := 1, escaped := (b == 92) }).state == 0) = false := by simp [A7]
     rw [← HD.out] at HBE
     clear HTQ HTK HMID
     go_wp2
     first
      | exact bodyPost_end (results_none rfl _ _ _) rfl ⟨rfl, ⟨_, _, HBE.out⟩, HRE.out⟩
      | exact bodyPost_ret (results_none rfl _ _ _) rfl ⟨rfl, ⟨_, _, HBE.out⟩, HRE.out⟩
  ·have r6b : ∀ w', Ext W1 w' → w'.cell? ⟨p, 6, none⟩ = some (.bool true) := fun w' e => by rw [← hes]; exact r6 w' e
   clear r6
   have r6 := r6b
   have HES := Lib.hid hes
   have HMID := HMM { m with left := 1, escaped := false } (by rw [if_pos (.inl hes)]; simp [hes])
   clear HMM r6b hes
   have f4 := HB.out.box.free 4; have f6 := HB.out.box.free 6
   have r6s : (W1.setCell ⟨p, 4, none⟩ (.int .i64 1)).cell? ⟨p, 6, none⟩ = some (.bool true) := by rw [← HES.out]; exact ((HB.out.put (m' := { m with left := 1 }) 4 (.int .i64 1) rfl rfl rfl)).box.cell 6
   have hB5 := (HB.out.put (m' := { m with left := 1 }) 4 (.int .i64 1) rfl rfl rfl).put (m' := { m with left := 1, escaped := false }) 6 (.bool false) rfl rfl rfl
   have hR5 := HR1.out.trans (((MR.set (i := 4) (Value.int .i64 1) HB.out.xp).trans (MR.set (i := 6) (Value.bool false) HB.out.xp)).weak HXW.out)
   obtain ⟨w5, hw5⟩ : ∃ W, Hid (W = (W1.setCell ⟨p, 4, none⟩ (.int .i64 1)).setCell ⟨p, 6, none⟩ (.bool false)) := ⟨_, rfl⟩
   rw [← hw5.out] at hB5 hR5
   have HB5 := Lib.hid hB5; have HR5 := Lib.hid hR5
   clear hB5 hR5
   go_upto_region 19 with (fail)
   rw [← hw5.out]
   clear i0 i1 i2 r0 r1 r4 r6 f4 f6
   have HTQ : Hid (m.take (16, a, z) b = ({ m with left := 1, escaped := false }).done (wrap64 (m.pc + 1))) := by show _ = _; rw [HTK.out, HMID.out]
   have s7 : (w5).cell? ⟨p, 7, none⟩ = some (.int .i64 ({ m with left := 1, escaped := false }).state) := HB5.out.box.cell 7
   have s4 : (w5).cell? ⟨p, 4, none⟩ = some (.int .i64 ({ m with left := 1, escaped := false }).left) := HB5.out.box.cell 4
   have s5 : (w5).cell? ⟨p, 5, none⟩ = some (.bool ({ m with left := 1, escaped := false }).started) := HB5.out.box.cell 5
   have s0 : (w5).cell? ⟨p, 0, none⟩ = some (.int .i64 ({ m with left := 1, escaped := false }).pc) := HB5.out.box.cell 0
   have f5 := HB5.out.box.free 5; have f0 := HB5.out.box.free 0
   have HRQ := Lib.hid (HR5.out)
   by_cases A7 : ({ m with left := 1, escaped := false }).state = 0
   ·by_cases A4 : ({ m with left := 1, escaped := false }).left = 0
    ·exact absurd A4 (by show ¬ (1 : Int) = 0; decide)
    ·have HD : Hid (m.take (16, a, z) b = { m with left := 1, escaped := false }) := by show _ = _; rw [HTQ.out, Mach.done, if_neg (by simp [A4])]
     have HBE := Lib.hid (HB5.out.weak HXW.out)
     have HRE := HRQ
     have A4b : (({ m with left := 1, escaped := false }).left == 0) = false := by simp [A4]
     rw [A7] at s7
     rw [← HD.out] at HBE
     clear HTQ HTK HMID
     go_wp2
     first
      | exact bodyPost_end (results_none rfl _ _ _) rfl ⟨rfl, ⟨_, _, HBE.out⟩, HRE.out⟩
      | exact bodyPost_ret (results_none rfl _ _ _) rfl ⟨rfl, ⟨_, _, HBE.out⟩, HRE.out⟩
   ·have HD : Hid (m.take (16, a, z) b = { m with left := 1, escaped := false }) := by show _ = _; rw [HTQ.out, Mach.done, if_neg (by simp [A7])]
    have HBE := Lib.hid (HB5.out.weak HXW.out)
    have HRE := HRQ
    have A7b : (({ m with left := 1, escaped := false }).state == 0) = false := by simp [A7]
    rw [← HD.out] at HBE
    clear HTQ HTK HMID
    go_wp2
    first
     | exact bodyPost_end (results_none rfl _ _ _) rfl ⟨rfl, ⟨_, _, HBE.out⟩, HRE.out⟩
     | exact bodyPost_ret (results_none rfl _ _ _) rfl ⟨rfl, ⟨_, _, HBE.out⟩, HRE.out⟩
 have n16 : (o == 16) = false := by simp [h16]
 have HMID : Hid (m.mid (o, a, z) b = (m, wrap64 (m.pc + 1))) := by show _ = _; unfold Mach.mid; rw [if_neg h1, if_neg h2, if_neg h13, if_neg h16]
 have HTQ : Hid (m.take (o, a, z) b = (m).done (wrap64 (m.pc + 1))) := by show _ = _; rw [HTK.out, HMID.out]
 have s7 : (W1).cell? ⟨p, 7, none⟩ = some (.int .i64 (m).state) := HB.out.box.cell 7
 have s4 : (W1).cell? ⟨p, 4, none⟩ = some (.int .i64 (m).left) := HB.out.box.cell 4
 have s5 : (W1).cell? ⟨p, 5, none⟩ = some (.bool (m).started) := HB.out.box.cell 5
 have s0 : (W1).cell? ⟨p, 0, none⟩ = some (.int .i64 (m).pc) := HB.out.box.cell 0
 have f5 := HB.out.box.free 5; have f0 := HB.out.box.free 0
 have HRQ := Lib.hid (HR1.out)
 by_cases A7 : (m).state = 0
 ·by_cases A4 : (m).left = 0
  ·have HD : Hid (m.take (o, a, z) b = { (m) with started := false, pc := wrap64 (m.pc + 1) }) := by show _ = _; rw [HTQ.out, Mach.done, if_pos ⟨A7, A4⟩]
   have HBE := Lib.hid (((HB.out.put (m' := { (m) with started := false }) 5 (.bool false) rfl rfl rfl).put (m' := { (m) with started := false, pc := wrap64 (m.pc + 1) }) 0 (.int .i64 (wrap64 (m.pc + 1))) rfl rfl rfl).weak HXW.out)
   have HRE := Lib.hid (HRQ.out.trans ((MR.set (i := 5) (Value.bool false) HBE.out.xp).trans (MR.set (i := 0) (Value.int .i64 (wrap64 (m.pc + 1))) HBE.out.xp)))
   rw [A7] at s7; rw [A4] at s4
   rw [← HD.out] at HBE
   clear HTQ HTK HMID
   go_wp2
   first
    | exact bodyPost_end (results_none rfl _ _ _) rfl ⟨rfl, ⟨_, _, HBE.out⟩, HRE.out⟩
    | exact bodyPost_ret (results_none rfl _ _ _) rfl ⟨rfl, ⟨_, _, HBE.out⟩, HRE.out⟩
  ·have HD : Hid (m.take (o, a, z) b = m) := by show _ = _; rw [HTQ.out, Mach.done, if_neg (by simp [A4])]
   have HBE := Lib.hid (HB.out.weak HXW.out)
   have HRE := HRQ
   have A4b : ((m).left == 0) = false := by simp [A4]
   rw [A7] at s7
   rw [← HD.out] at HBE
   clear HTQ HTK HMID
   go_wp2
   first
    | exact bodyPost_end (results_none rfl _ _ _) rfl ⟨rfl, ⟨_, _, HBE.out⟩, HRE.out⟩
    | exact bodyPost_ret (results_none rfl _ _ _) rfl ⟨rfl, ⟨_, _, HBE.out⟩, HRE.out⟩
 ·have HD : Hid (m.take (o, a, z) b = m) := by show _ = _; rw [HTQ.out, Mach.done, if_neg (by simp [A7])]
  have HBE := Lib.hid (HB.out.weak HXW.out)
  have HRE := HRQ
  have A7b : ((m).state == 0) = false := by simp [A7]
  rw [← HD.out] at HBE
  clear HTQ HTK HMID
  go_wp2
  first
   | exact bodyPost_end (results_none rfl _ _ _) rfl ⟨rfl, ⟨_, _, HBE.out⟩, HRE.out⟩
   | exact bodyPost_ret (results_none rfl _ _ _) rfl ⟨rfl, ⟨_, _, HBE.out⟩, HRE.out⟩
end Go.Proofs.YtpmcofmdjckijaaGreat
