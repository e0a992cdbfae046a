/- l9Own of the reference: a theorem a kind. -/
import Derived.Test.YtpmcofmdjckijaaGreatDoorZEx6
import Derived.Deep.RegionHeld3
import Derived.Deep.DeepCutAuto
set_option linter.unusedVariables false
set_option linter.unusedSimpArgs false
set_option maxRecDepth 100000
set_option maxHeartbeats 16000000
namespace Go.Proofs.YtpmcofmdjckijaaGreatDoor
open Go.RowKit Go.Sort
theorem beq0 (b : Nat) : ((b : Int) == 0) = (b == 0) := by
 by_cases h : b = 0
 ·subst h; rfl
 ·rw [beq_eq_false_iff_ne.2 h, beq_eq_false_iff_ne]; omega
theorem beq1 (b : Nat) : ((b : Int) == 1) = (b == 1) := by
 by_cases h : b = 1
 ·simp [h]
 ·rw [beq_eq_false_iff_ne.2 h, beq_eq_false_iff_ne]; omega
theorem beqN (b c : Nat) : ((b : Int) == (c : Int)) = (b == c) := by
 by_cases h : b = c
 ·simp [h]
 ·rw [beq_eq_false_iff_ne.2 h, beq_eq_false_iff_ne]; omega
theorem minI (a b : Int) : (if a < b then a else b) = min b a := by split <;> omega
theorem dec_le (b c : Nat) : decide ((b : Int) ≤ (c : Int)) = decide (b ≤ c) := by by_cases h : b ≤ c <;> simp [h]
theorem own_1 (ds : List DRule) (r : DRule) (v : DVal) (hk : r.kind = 1) : ownV ds r v.num v.bytes.length v.items.length = ((decide ((0 : Int) ≤ v.num) && decide (v.num ≤ limR r)) && ((v.bytes.length : Int) == 0) && ((v.items.length : Int) == 0)) := by
 unfold ownV
 rw [if_pos hk]
 rw [beq0, beq0]
theorem own_2 (ds : List DRule) (r : DRule) (v : DVal) (hk : r.kind = 2) : ownV ds r v.num v.bytes.length v.items.length = ((v.num == 0) && ((v.bytes.length : Int) == 0) && ((v.items.length : Int) == 0)) := by
 unfold ownV
 rw [if_neg (show ¬ r.kind = 1 by omega), if_pos hk]
 rw [beq0, beq0]
theorem own_3 (ds : List DRule) (r : DRule) (v : DVal) (hk : r.kind = 3) : ownV ds r v.num v.bytes.length v.items.length = ((v.num == 0) && ((v.bytes.length : Int) == r.size) && ((v.items.length : Int) == 0)) := by
 unfold ownV
 rw [if_neg (show ¬ r.kind = 1 by omega), if_neg (show ¬ r.kind = 2 by omega), if_pos hk]
 rw [beq0]; congr 2
theorem own_4 (ds : List DRule) (r : DRule) (v : DVal) (hk : r.kind = 4) : ownV ds r v.num v.bytes.length v.items.length = ((v.num == 0) && decide ((v.bytes.length : Int) ≤ (if limD ds (r.kids.getD 0 0) < 400 then limD ds (r.kids.getD 0 0) else 400)) && ((v.items.length : Int) == 0)) := by
 unfold ownV
 rw [if_neg (show ¬ r.kind = 1 by omega), if_neg (show ¬ r.kind = 2 by omega), if_neg (show ¬ r.kind = 3 by omega), if_pos hk]
 rw [minI, beq0]
theorem own_10 (ds : List DRule) (r : DRule) (v : DVal) (hk : r.kind = 10) : ownV ds r v.num v.bytes.length v.items.length = ((v.num == 0) && decide ((v.bytes.length : Int) ≤ 400) && ((v.items.length : Int) == 0)) := by
 unfold ownV
 rw [if_neg (show ¬ r.kind = 1 by omega), if_neg (show ¬ r.kind = 2 by omega), if_neg (show ¬ r.kind = 3 by omega), if_neg (show ¬ r.kind = 4 by omega), if_neg (show ¬ r.kind = 5 by omega), if_neg (show ¬ r.kind = 6 by omega), if_neg (show ¬ r.kind = 7 by omega), if_neg (show ¬ r.kind = 8 by omega), if_neg (show ¬ r.kind = 9 by omega)]
 rw [beq0]; congr 2; exact (dec_le _ 400).symm
theorem own_5 (ds : List DRule) (r : DRule) (v : DVal) (hk : r.kind = 5) : ownV ds r v.num v.bytes.length v.items.length = ((v.num == 0) && ((v.bytes.length : Int) == 0) && decide ((v.items.length : Int) ≤ (if limD ds (r.kids.getD 0 0) < 40 then limD ds (r.kids.getD 0 0) else 40))) := by
 unfold ownV
 rw [if_neg (show ¬ r.kind = 1 by omega), if_neg (show ¬ r.kind = 2 by omega), if_neg (show ¬ r.kind = 3 by omega), if_neg (show ¬ r.kind = 4 by omega), if_pos hk]
 rw [minI, beq0]
theorem own_6 (ds : List DRule) (r : DRule) (v : DVal) (hk : r.kind = 6) : ownV ds r v.num v.bytes.length v.items.length = ((v.num == 0) && ((v.bytes.length : Int) == 0) && ((v.items.length : Int) == (r.kids.length : Int))) := by
 unfold ownV
 rw [if_neg (show ¬ r.kind = 1 by omega), if_neg (show ¬ r.kind = 2 by omega), if_neg (show ¬ r.kind = 3 by omega), if_neg (show ¬ r.kind = 4 by omega), if_neg (show ¬ r.kind = 5 by omega), if_pos hk]
 rw [beq0, beqN]
theorem own_7 (ds : List DRule) (r : DRule) (v : DVal) (hk : r.kind = 7) : ownV ds r v.num v.bytes.length v.items.length = (((v.bytes.length : Int) == 0) && ((v.items.length : Int) == 1) && decide (tagN r.tags v.num < r.tags.length)) := by
 unfold ownV
 rw [if_neg (show ¬ r.kind = 1 by omega), if_neg (show ¬ r.kind = 2 by omega), if_neg (show ¬ r.kind = 3 by omega), if_neg (show ¬ r.kind = 4 by omega), if_neg (show ¬ r.kind = 5 by omega), if_neg (show ¬ r.kind = 6 by omega), if_pos hk]
 rw [beq0, beq1]; cases decide (tagN r.tags v.num < r.tags.length) <;> cases (v.bytes.length == 0) <;> cases (v.items.length == 1) <;> rfl
theorem own_8 (ds : List DRule) (r : DRule) (v : DVal) (hk : r.kind = 8) : ownV ds r v.num v.bytes.length v.items.length = ((v.num == 0) && ((v.bytes.length : Int) == 0) && decide ((v.items.length : Int) ≤ 1)) := by
 unfold ownV
 rw [if_neg (show ¬ r.kind = 1 by omega), if_neg (show ¬ r.kind = 2 by omega), if_neg (show ¬ r.kind = 3 by omega), if_neg (show ¬ r.kind = 4 by omega), if_neg (show ¬ r.kind = 5 by omega), if_neg (show ¬ r.kind = 6 by omega), if_neg (show ¬ r.kind = 7 by omega), if_pos hk]
 rw [beq0]; congr 1; exact (dec_le _ 1).symm
theorem own_9 (ds : List DRule) (r : DRule) (v : DVal) (hk : r.kind = 9) : ownV ds r v.num v.bytes.length v.items.length = ((v.num == 0) && ((v.bytes.length : Int) == 0) && ((v.items.length : Int) == 1)) := by
 unfold ownV
 rw [if_neg (show ¬ r.kind = 1 by omega), if_neg (show ¬ r.kind = 2 by omega), if_neg (show ¬ r.kind = 3 by omega), if_neg (show ¬ r.kind = 4 by omega), if_neg (show ¬ r.kind = 5 by omega), if_neg (show ¬ r.kind = 6 by omega), if_neg (show ¬ r.kind = 7 by omega), if_neg (show ¬ r.kind = 8 by omega), if_pos hk]
 rw [beq0, beq1]
theorem sOwn_1 (A : Option Addr) (ds : List DRule) (c : Nat) (r : DRule) (Ab : Option Addr) (cb : Nat) (An : Option Addr) (cn : Nat) (At : Option Addr) (ct : Nat) (Ak : Option Addr) (ck : Nat) (v : DVal) (Vb : Option Addr) (vb : Nat) (Vi : Option Addr) (vi : Nat) (w : World) (hd : RdD w A ds c) (h : RdS w r Ab cb An cn At ct Ak ck) (hb : v.bytes.length ≤ 9223372036854775807) (hi : v.items.length ≤ 9223372036854775807) (hk : r.kind = 1) (hsz : 1 ≤ r.size ∧ r.size ≤ 4) :
 Gives Tryz.prog 82 #[vdesc (.slice A ds.length c), vrule r (.slice Ab r.bytes.length cb) (.slice An r.names.length cn) (.slice At r.tags.length ct) (.slice Ak r.kids.length ck), vval v (.slice Vb v.bytes.length vb) (.slice Vi v.items.length vi)] w (.bool (ownV ds r v.num v.bytes.length v.items.length)) := by
 have HE := Lib.hid (own_1 ds r v hk)
 rw [HE.out]; clear HE
 have hlt := h.t.len; have hlk := h.k.len
 have eb := Ext_alloc (.cells #[.int .i64 v.num, .slice Vb v.bytes.length vb, .slice Vi v.items.length vi] 29) (Ext_alloc (.cells #[.string r.nm, .int .i64 r.kind, .int .i64 r.size, .bool r.little, .slice Ab r.bytes.length cb, .slice An r.names.length cn, .slice At r.tags.length ct, .slice Ak r.kids.length ck] 51) (Ext_alloc (.cells #[.slice A ds.length c] 26) (Ext.refl w)))
 have BX := fun w' (e : Ext (((w.alloc (.cells #[.slice A ds.length c] 26)).alloc (.cells #[.string r.nm, .int .i64 r.kind, .int .i64 r.size, .bool r.little, .slice Ab r.bytes.length cb, .slice An r.names.length cn, .slice At r.tags.length ct, .slice Ak r.kids.length ck] 51)).alloc (.cells #[.int .i64 v.num, .slice Vb v.bytes.length vb, .slice Vi v.items.length vi] 29)) w') => boxed3 e
 have B0 := fun w' e => (BX w' e).1 0; have B1 := fun w' e => (BX w' e).2.1; have B2 := fun w' e => (BX w' e).2.2.1
 simp only [List.getElem?_toArray, List.getElem?_cons_zero] at B0
 clear BX
 have q1 : (r.kind == 1) = true := by rw [hk]; rfl
 have q2 : (r.kind == 2) = false := by rw [hk]; rfl
 have q3 : (r.kind == 3) = false := by rw [hk]; rfl
 have q4 : (r.kind == 4) = false := by rw [hk]; rfl
 have q10 : (r.kind == 10) = false := by rw [hk]; rfl
 have q5 : (r.kind == 5) = false := by rw [hk]; rfl
 have q6 : (r.kind == 6) = false := by rw [hk]; rfl
 have q7 : (r.kind == 7) = false := by rw [hk]; rfl
 have q8 : (r.kind == 8) = false := by rw [hk]; rfl
 have q9 : (r.kind == 9) = false := by rw [hk]; rfl
 obtain ⟨s, hs⟩ := Int.eq_ofNat_of_zero_le (show 0 ≤ r.size by omega)
 have hlim : limR r = 256 ^ s - 1 := limR_yes hk s (by omega) (by omega) hs
 have CP : Hid (∀ w, Gives Tryz.prog 48 #[.int .i64 r.size] w (.int .i64 (256 ^ s))) := fun w => by rw [hs]; exact l2PowerN_c s w (by omega) (by omega)
 have CI := Lib.hid (fun w => l1In_c v.num 0 ((256 ^ s : Int) - 1) w)
 rw [← hlim] at CI
 have hlim2 : (256 ^ s : Int) - 1 = limR r := hlim.symm
 have hpw : (256 ^ s : Int) = 256 ∨ (256 ^ s : Int) = 65536 ∨ (256 ^ s : Int) = 16777216 ∨ (256 ^ s : Int) = 4294967296 := by rcases (by omega : s = 1 ∨ s = 2 ∨ s = 3 ∨ s = 4) with rfl | rfl | rfl | rfl <;> simp
 have hwr : IntKind.i64.wrap ((256 ^ s : Int) - 1) = limR r := by rw [← hlim2]; rcases hpw with e | e | e | e <;> rw [e] <;> rfl
 have hwr2 : wrap64 ((256 ^ s : Int) - 1) = limR r := by rw [← hlim2]; rcases hpw with e | e | e | e <;> rw [e] <;> first | (simp [wrap64]; done) | (unfold wrap64; omega) | rfl
 generalize (256 ^ s : Int) = pw at *
 clear hlim hlim2 hpw hsz hs
 clear h hk hd
 unfold vdesc vrule vval
 cases z0 : (decide ((0 : Int) ≤ v.num) && decide (v.num ≤ limR r))
 ·rw [z0] at CI
  go_enter Tryz.func82, Tryz.ntmps82
  go_wp2_with fail
  refine wp_region_quiet_below (by kernel_rfl) (by kernel_rfl) ?_
  repeat (go_big_quiet_step ((first | (go_at_call 48; exact Calls.regrown_of (CP.out _)) | (go_at_call 51; exact Calls.regrown_of (CI.out _)))))
  refine wpQuiet_nil ?_
  rintro w1 ⟨⟨nq, osq⟩, hq⟩
  have ew1 := ext_of_q hq
  clear hq nq osq
  go_wp2
  go_ret
  exact ⟨ret_bool (by first | rfl | (simp; done) | (simp only [z0, Bool.false_and, Bool.and_false]; rfl)), eb.trans ew1⟩
 ·rw [z0] at CI
  cases z1 : ((v.bytes.length : Int) == 0)
  ·skip
   go_enter Tryz.func82, Tryz.ntmps82
   go_wp2_with fail
   refine wp_region_quiet_below (by kernel_rfl) (by kernel_rfl) ?_
   repeat (go_big_quiet_step ((first | (go_at_call 48; exact Calls.regrown_of (CP.out _)) | (go_at_call 51; exact Calls.regrown_of (CI.out _)))))
   refine wpQuiet_nil ?_
   rintro w1 ⟨⟨nq, osq⟩, hq⟩
   have ew1 := ext_of_q hq
   clear hq nq osq
   go_wp2
   go_ret
   exact ⟨ret_bool (by first | rfl | (simp; done) | (simp only [z0, z1, Bool.false_and, Bool.and_false]; rfl)), eb.trans ew1⟩
  ·skip
   cases z2 : ((v.items.length : Int) == 0)
   ·skip
    go_enter Tryz.func82, Tryz.ntmps82
    go_wp2_with fail
    refine wp_region_quiet_below (by kernel_rfl) (by kernel_rfl) ?_
    repeat (go_big_quiet_step ((first | (go_at_call 48; exact Calls.regrown_of (CP.out _)) | (go_at_call 51; exact Calls.regrown_of (CI.out _)))))
    refine wpQuiet_nil ?_
    rintro w1 ⟨⟨nq, osq⟩, hq⟩
    have ew1 := ext_of_q hq
    clear hq nq osq
    go_wp2
    go_ret
    exact ⟨ret_bool (by first | rfl | (simp; done) | (simp only [z0, z1, z2, Bool.false_and, Bool.and_false]; rfl)), eb.trans ew1⟩
   ·skip
    go_enter Tryz.func82, Tryz.ntmps82
    go_wp2_with fail
    refine wp_region_quiet_below (by kernel_rfl) (by kernel_rfl) ?_
    repeat (go_big_quiet_step ((first | (go_at_call 48; exact Calls.regrown_of (CP.out _)) | (go_at_call 51; exact Calls.regrown_of (CI.out _)))))
    refine wpQuiet_nil ?_
    rintro w1 ⟨⟨nq, osq⟩, hq⟩
    have ew1 := ext_of_q hq
    clear hq nq osq
    go_wp2
    go_ret
    exact ⟨ret_bool (by first | rfl | (simp; done) | (simp only [z0, z1, z2]; rfl)), eb.trans ew1⟩
theorem sOwn_2 (A : Option Addr) (ds : List DRule) (c : Nat) (r : DRule) (Ab : Option Addr) (cb : Nat) (An : Option Addr) (cn : Nat) (At : Option Addr) (ct : Nat) (Ak : Option Addr) (ck : Nat) (v : DVal) (Vb : Option Addr) (vb : Nat) (Vi : Option Addr) (vi : Nat) (w : World) (hd : RdD w A ds c) (h : RdS w r Ab cb An cn At ct Ak ck) (hb : v.bytes.length ≤ 9223372036854775807) (hi : v.items.length ≤ 9223372036854775807) (hk : r.kind = 2) :
 Gives Tryz.prog 82 #[vdesc (.slice A ds.length c), vrule r (.slice Ab r.bytes.length cb) (.slice An r.names.length cn) (.slice At r.tags.length ct) (.slice Ak r.kids.length ck), vval v (.slice Vb v.bytes.length vb) (.slice Vi v.items.length vi)] w (.bool (ownV ds r v.num v.bytes.length v.items.length)) := by
 have HE := Lib.hid (own_2 ds r v hk)
 rw [HE.out]; clear HE
 have hlt := h.t.len; have hlk := h.k.len
 have eb := Ext_alloc (.cells #[.int .i64 v.num, .slice Vb v.bytes.length vb, .slice Vi v.items.length vi] 29) (Ext_alloc (.cells #[.string r.nm, .int .i64 r.kind, .int .i64 r.size, .bool r.little, .slice Ab r.bytes.length cb, .slice An r.names.length cn, .slice At r.tags.length ct, .slice Ak r.kids.length ck] 51) (Ext_alloc (.cells #[.slice A ds.length c] 26) (Ext.refl w)))
 have BX := fun w' (e : Ext (((w.alloc (.cells #[.slice A ds.length c] 26)).alloc (.cells #[.string r.nm, .int .i64 r.kind, .int .i64 r.size, .bool r.little, .slice Ab r.bytes.length cb, .slice An r.names.length cn, .slice At r.tags.length ct, .slice Ak r.kids.length ck] 51)).alloc (.cells #[.int .i64 v.num, .slice Vb v.bytes.length vb, .slice Vi v.items.length vi] 29)) w') => boxed3 e
 have B0 := fun w' e => (BX w' e).1 0; have B1 := fun w' e => (BX w' e).2.1; have B2 := fun w' e => (BX w' e).2.2.1
 simp only [List.getElem?_toArray, List.getElem?_cons_zero] at B0
 clear BX
 have q1 : (r.kind == 1) = false := by rw [hk]; rfl
 have q2 : (r.kind == 2) = true := by rw [hk]; rfl
 have q3 : (r.kind == 3) = false := by rw [hk]; rfl
 have q4 : (r.kind == 4) = false := by rw [hk]; rfl
 have q10 : (r.kind == 10) = false := by rw [hk]; rfl
 have q5 : (r.kind == 5) = false := by rw [hk]; rfl
 have q6 : (r.kind == 6) = false := by rw [hk]; rfl
 have q7 : (r.kind == 7) = false := by rw [hk]; rfl
 have q8 : (r.kind == 8) = false := by rw [hk]; rfl
 have q9 : (r.kind == 9) = false := by rw [hk]; rfl
 clear h hk
 unfold vdesc vrule vval
 cases z0 : (v.num == 0)
 ·skip
  go_enter Tryz.func82, Tryz.ntmps82
  go_wp2
  go_ret
  exact ⟨ret_bool (by first | rfl | (simp; done) | (simp only [z0, Bool.false_and, Bool.and_false]; rfl)), eb⟩
 ·skip
  cases z1 : ((v.bytes.length : Int) == 0)
  ·skip
   go_enter Tryz.func82, Tryz.ntmps82
   go_wp2
   go_ret
   exact ⟨ret_bool (by first | rfl | (simp; done) | (simp only [z0, z1, Bool.false_and, Bool.and_false]; rfl)), eb⟩
  ·skip
   cases z2 : ((v.items.length : Int) == 0)
   ·skip
    go_enter Tryz.func82, Tryz.ntmps82
    go_wp2
    go_ret
    exact ⟨ret_bool (by first | rfl | (simp; done) | (simp only [z0, z1, z2, Bool.false_and, Bool.and_false]; rfl)), eb⟩
   ·skip
    go_enter Tryz.func82, Tryz.ntmps82
    go_wp2
    go_ret
    exact ⟨ret_bool (by first | rfl | (simp; done) | (simp only [z0, z1, z2]; rfl)), eb⟩
theorem sOwn_3 (A : Option Addr) (ds : List DRule) (c : Nat) (r : DRule) (Ab : Option Addr) (cb : Nat) (An : Option Addr) (cn : Nat) (At : Option Addr) (ct : Nat) (Ak : Option Addr) (ck : Nat) (v : DVal) (Vb : Option Addr) (vb : Nat) (Vi : Option Addr) (vi : Nat) (w : World) (hd : RdD w A ds c) (h : RdS w r Ab cb An cn At ct Ak ck) (hb : v.bytes.length ≤ 9223372036854775807) (hi : v.items.length ≤ 9223372036854775807) (hk : r.kind = 3) :
 Gives Tryz.prog 82 #[vdesc (.slice A ds.length c), vrule r (.slice Ab r.bytes.length cb) (.slice An r.names.length cn) (.slice At r.tags.length ct) (.slice Ak r.kids.length ck), vval v (.slice Vb v.bytes.length vb) (.slice Vi v.items.length vi)] w (.bool (ownV ds r v.num v.bytes.length v.items.length)) := by
 have HE := Lib.hid (own_3 ds r v hk)
 rw [HE.out]; clear HE
 have hlt := h.t.len; have hlk := h.k.len
 have eb := Ext_alloc (.cells #[.int .i64 v.num, .slice Vb v.bytes.length vb, .slice Vi v.items.length vi] 29) (Ext_alloc (.cells #[.string r.nm, .int .i64 r.kind, .int .i64 r.size, .bool r.little, .slice Ab r.bytes.length cb, .slice An r.names.length cn, .slice At r.tags.length ct, .slice Ak r.kids.length ck] 51) (Ext_alloc (.cells #[.slice A ds.length c] 26) (Ext.refl w)))
 have BX := fun w' (e : Ext (((w.alloc (.cells #[.slice A ds.length c] 26)).alloc (.cells #[.string r.nm, .int .i64 r.kind, .int .i64 r.size, .bool r.little, .slice Ab r.bytes.length cb, .slice An r.names.length cn, .slice At r.tags.length ct, .slice Ak r.kids.length ck] 51)).alloc (.cells #[.int .i64 v.num, .slice Vb v.bytes.length vb, .slice Vi v.items.length vi] 29)) w') => boxed3 e
 have B0 := fun w' e => (BX w' e).1 0; have B1 := fun w' e => (BX w' e).2.1; have B2 := fun w' e => (BX w' e).2.2.1
 simp only [List.getElem?_toArray, List.getElem?_cons_zero] at B0
 clear BX
 have q1 : (r.kind == 1) = false := by rw [hk]; rfl
 have q2 : (r.kind == 2) = false := by rw [hk]; rfl
 have q3 : (r.kind == 3) = true := by rw [hk]; rfl
 have q4 : (r.kind == 4) = false := by rw [hk]; rfl
 have q10 : (r.kind == 10) = false := by rw [hk]; rfl
 have q5 : (r.kind == 5) = false := by rw [hk]; rfl
 have q6 : (r.kind == 6) = false := by rw [hk]; rfl
 have q7 : (r.kind == 7) = false := by rw [hk]; rfl
 have q8 : (r.kind == 8) = false := by rw [hk]; rfl
 have q9 : (r.kind == 9) = false := by rw [hk]; rfl
 clear h hk
 unfold vdesc vrule vval
 cases z0 : (v.num == 0)
 ·skip
  go_enter Tryz.func82, Tryz.ntmps82
  go_wp2
  go_ret
  exact ⟨ret_bool (by first | rfl | (simp; done) | (simp only [z0, Bool.false_and, Bool.and_false]; rfl)), eb⟩
 ·skip
  cases z1 : ((v.bytes.length : Int) == r.size)
  ·skip
   go_enter Tryz.func82, Tryz.ntmps82
   go_wp2
   go_ret
   exact ⟨ret_bool (by first | rfl | (simp; done) | (simp only [z0, z1, Bool.false_and, Bool.and_false]; rfl)), eb⟩
  ·skip
   cases z2 : ((v.items.length : Int) == 0)
   ·skip
    go_enter Tryz.func82, Tryz.ntmps82
    go_wp2
    go_ret
    exact ⟨ret_bool (by first | rfl | (simp; done) | (simp only [z0, z1, z2, Bool.false_and, Bool.and_false]; rfl)), eb⟩
   ·skip
    go_enter Tryz.func82, Tryz.ntmps82
    go_wp2
    go_ret
    exact ⟨ret_bool (by first | rfl | (simp; done) | (simp only [z0, z1, z2]; rfl)), eb⟩
theorem sOwn_4 (A : Option Addr) (ds : List DRule) (c : Nat) (r : DRule) (Ab : Option Addr) (cb : Nat) (An : Option Addr) (cn : Nat) (At : Option Addr) (ct : Nat) (Ak : Option Addr) (ck : Nat) (v : DVal) (Vb : Option Addr) (vb : Nat) (Vi : Option Addr) (vi : Nat) (w : World) (hd : RdD w A ds c) (h : RdS w r Ab cb An cn At ct Ak ck) (hb : v.bytes.length ≤ 9223372036854775807) (hi : v.items.length ≤ 9223372036854775807) (hk : r.kind = 4) (hkl : 0 < r.kids.length) :
 Gives Tryz.prog 82 #[vdesc (.slice A ds.length c), vrule r (.slice Ab r.bytes.length cb) (.slice An r.names.length cn) (.slice At r.tags.length ct) (.slice Ak r.kids.length ck), vval v (.slice Vb v.bytes.length vb) (.slice Vi v.items.length vi)] w (.bool (ownV ds r v.num v.bytes.length v.items.length)) := by
 have HE := Lib.hid (own_4 ds r v hk)
 rw [HE.out]; clear HE
 obtain ⟨bk, ok, hAk, hbk, hck⟩ := h.k.at 0 hkl
 subst hAk
 have hlt := h.t.len; have hlk := h.k.len
 have eb := Ext_alloc (.cells #[.int .i64 v.num, .slice Vb v.bytes.length vb, .slice Vi v.items.length vi] 29) (Ext_alloc (.cells #[.string r.nm, .int .i64 r.kind, .int .i64 r.size, .bool r.little, .slice Ab r.bytes.length cb, .slice An r.names.length cn, .slice At r.tags.length ct, .slice (some ⟨bk, ok, none⟩) r.kids.length ck] 51) (Ext_alloc (.cells #[.slice A ds.length c] 26) (Ext.refl w)))
 have BX := fun w' (e : Ext (((w.alloc (.cells #[.slice A ds.length c] 26)).alloc (.cells #[.string r.nm, .int .i64 r.kind, .int .i64 r.size, .bool r.little, .slice Ab r.bytes.length cb, .slice An r.names.length cn, .slice At r.tags.length ct, .slice (some ⟨bk, ok, none⟩) r.kids.length ck] 51)).alloc (.cells #[.int .i64 v.num, .slice Vb v.bytes.length vb, .slice Vi v.items.length vi] 29)) w') => boxed3 e
 have B0 := fun w' e => (BX w' e).1 0; have B1 := fun w' e => (BX w' e).2.1; have B2 := fun w' e => (BX w' e).2.2.1
 simp only [List.getElem?_toArray, List.getElem?_cons_zero] at B0
 clear BX
 have q1 : (r.kind == 1) = false := by rw [hk]; rfl
 have q2 : (r.kind == 2) = false := by rw [hk]; rfl
 have q3 : (r.kind == 3) = false := by rw [hk]; rfl
 have q4 : (r.kind == 4) = true := by rw [hk]; rfl
 have q10 : (r.kind == 10) = false := by rw [hk]; rfl
 have q5 : (r.kind == 5) = false := by rw [hk]; rfl
 have q6 : (r.kind == 6) = false := by rw [hk]; rfl
 have q7 : (r.kind == 7) = false := by rw [hk]; rfl
 have q8 : (r.kind == 8) = false := by rw [hk]; rfl
 have q9 : (r.kind == 9) = false := by rw [hk]; rfl
 simp only [Nat.add_zero] at hck
 replace hck := fun w' (e : Ext (((w.alloc (.cells #[.slice A ds.length c] 26)).alloc (.cells #[.string r.nm, .int .i64 r.kind, .int .i64 r.size, .bool r.little, .slice Ab r.bytes.length cb, .slice An r.names.length cn, .slice At r.tags.length ct, .slice (some ⟨bk, ok, none⟩) r.kids.length ck] 51)).alloc (.cells #[.int .i64 v.num, .slice Vb v.bytes.length vb, .slice Vi v.items.length vi] 29)) w') => hck w' (eb.trans e)
 have hg0 : r.kids.getD 0 0 = r.kids[0] := by simp [hkl]
 rw [hg0]
 generalize r.kids[0] = kz at *
 have CL := Lib.hid (fun w h => sLimit_c A ds c kz w h)
 have HD := Lib.hid hd
 have hkl2 : (0 : Int) < (r.kids.length : Int) := by omega
 generalize limD ds kz = L at *
 have CM := Lib.hid (fun w => sMin_c 400 L w)
 generalize (if L < 400 then L else 400) = M at *
 clear h hk hd
 unfold vdesc vrule vval at *
 cases z0 : (v.num == 0)
 ·skip
  go_enter Tryz.func82, Tryz.ntmps82
  go_wp2_with fail
  refine wp_region_quiet_below (by kernel_rfl) (by kernel_rfl) ?_
  repeat (go_big_quiet_step ((first | (go_at_call 93; exact Calls.regrown_of (CL.out _ (HD.out.ext (eb.trans (by first | assumption | exact Ext_regrown _ _ (Ext.refl _)))))) | (go_at_call 47; exact Calls.regrown_of (CM.out _)))))
  refine wpQuiet_nil ?_
  rintro w1 ⟨⟨nq, osq⟩, hq⟩
  have ew1 := ext_of_q hq
  clear hq nq osq
  go_wp2
  go_ret
  exact ⟨ret_bool (by first | rfl | (simp; done) | (simp only [z0, Bool.false_and, Bool.and_false]; rfl)), eb.trans ew1⟩
 ·skip
  cases z1 : decide ((v.bytes.length : Int) ≤ M)
  ·skip
   go_enter Tryz.func82, Tryz.ntmps82
   go_wp2_with fail
   refine wp_region_quiet_below (by kernel_rfl) (by kernel_rfl) ?_
   repeat (go_big_quiet_step ((first | (go_at_call 93; exact Calls.regrown_of (CL.out _ (HD.out.ext (eb.trans (by first | assumption | exact Ext_regrown _ _ (Ext.refl _)))))) | (go_at_call 47; exact Calls.regrown_of (CM.out _)))))
   refine wpQuiet_nil ?_
   rintro w1 ⟨⟨nq, osq⟩, hq⟩
   have ew1 := ext_of_q hq
   clear hq nq osq
   go_wp2
   go_ret
   exact ⟨ret_bool (by first | rfl | (simp; done) | (simp only [z0, z1, Bool.false_and, Bool.and_false]; rfl)), eb.trans ew1⟩
  ·skip
   cases z2 : ((v.items.length : Int) == 0)
   ·skip
    go_enter Tryz.func82, Tryz.ntmps82
    go_wp2_with fail
    refine wp_region_quiet_below (by kernel_rfl) (by kernel_rfl) ?_
    repeat (go_big_quiet_step ((first | (go_at_call 93; exact Calls.regrown_of (CL.out _ (HD.out.ext (eb.trans (by first | assumption | exact Ext_regrown _ _ (Ext.refl _)))))) | (go_at_call 47; exact Calls.regrown_of (CM.out _)))))
    refine wpQuiet_nil ?_
    rintro w1 ⟨⟨nq, osq⟩, hq⟩
    have ew1 := ext_of_q hq
    clear hq nq osq
    go_wp2
    go_ret
    exact ⟨ret_bool (by first | rfl | (simp; done) | (simp only [z0, z1, z2, Bool.false_and, Bool.and_false]; rfl)), eb.trans ew1⟩
   ·skip
    go_enter Tryz.func82, Tryz.ntmps82
    go_wp2_with fail
    refine wp_region_quiet_below (by kernel_rfl) (by kernel_rfl) ?_
    repeat (go_big_quiet_step ((first | (go_at_call 93; exact Calls.regrown_of (CL.out _ (HD.out.ext (eb.trans (by first | assumption | exact Ext_regrown _ _ (Ext.refl _)))))) | (go_at_call 47; exact Calls.regrown_of (CM.out _)))))
    refine wpQuiet_nil ?_
    rintro w1 ⟨⟨nq, osq⟩, hq⟩
    have ew1 := ext_of_q hq
    clear hq nq osq
    go_wp2
    go_ret
    exact ⟨ret_bool (by first | rfl | (simp; done) | (simp only [z0, z1, z2]; rfl)), eb.trans ew1⟩
theorem sOwn_10 (A : Option Addr) (ds : List DRule) (c : Nat) (r : DRule) (Ab : Option Addr) (cb : Nat) (An : Option Addr) (cn : Nat) (At : Option Addr) (ct : Nat) (Ak : Option Addr) (ck : Nat) (v : DVal) (Vb : Option Addr) (vb : Nat) (Vi : Option Addr) (vi : Nat) (w : World) (hd : RdD w A ds c) (h : RdS w r Ab cb An cn At ct Ak ck) (hb : v.bytes.length ≤ 9223372036854775807) (hi : v.items.length ≤ 9223372036854775807) (hk : r.kind = 10) :
 Gives Tryz.prog 82 #[vdesc (.slice A ds.length c), vrule r (.slice Ab r.bytes.length cb) (.slice An r.names.length cn) (.slice At r.tags.length ct) (.slice Ak r.kids.length ck), vval v (.slice Vb v.bytes.length vb) (.slice Vi v.items.length vi)] w (.bool (ownV ds r v.num v.bytes.length v.items.length)) := by
 have HE := Lib.hid (own_10 ds r v hk)
 rw [HE.out]; clear HE
 have hlt := h.t.len; have hlk := h.k.len
 have eb := Ext_alloc (.cells #[.int .i64 v.num, .slice Vb v.bytes.length vb, .slice Vi v.items.length vi] 29) (Ext_alloc (.cells #[.string r.nm, .int .i64 r.kind, .int .i64 r.size, .bool r.little, .slice Ab r.bytes.length cb, .slice An r.names.length cn, .slice At r.tags.length ct, .slice Ak r.kids.length ck] 51) (Ext_alloc (.cells #[.slice A ds.length c] 26) (Ext.refl w)))
 have BX := fun w' (e : Ext (((w.alloc (.cells #[.slice A ds.length c] 26)).alloc (.cells #[.string r.nm, .int .i64 r.kind, .int .i64 r.size, .bool r.little, .slice Ab r.bytes.length cb, .slice An r.names.length cn, .slice At r.tags.length ct, .slice Ak r.kids.length ck] 51)).alloc (.cells #[.int .i64 v.num, .slice Vb v.bytes.length vb, .slice Vi v.items.length vi] 29)) w') => boxed3 e
 have B0 := fun w' e => (BX w' e).1 0; have B1 := fun w' e => (BX w' e).2.1; have B2 := fun w' e => (BX w' e).2.2.1
 simp only [List.getElem?_toArray, List.getElem?_cons_zero] at B0
 clear BX
 have q1 : (r.kind == 1) = false := by rw [hk]; rfl
 have q2 : (r.kind == 2) = false := by rw [hk]; rfl
 have q3 : (r.kind == 3) = false := by rw [hk]; rfl
 have q4 : (r.kind == 4) = false := by rw [hk]; rfl
 have q10 : (r.kind == 10) = true := by rw [hk]; rfl
 have q5 : (r.kind == 5) = false := by rw [hk]; rfl
 have q6 : (r.kind == 6) = false := by rw [hk]; rfl
 have q7 : (r.kind == 7) = false := by rw [hk]; rfl
 have q8 : (r.kind == 8) = false := by rw [hk]; rfl
 have q9 : (r.kind == 9) = false := by rw [hk]; rfl
 clear h hk
 unfold vdesc vrule vval
 cases z0 : (v.num == 0)
 ·skip
  go_enter Tryz.func82, Tryz.ntmps82
  go_wp2
  go_ret
  exact ⟨ret_bool (by first | rfl | (simp; done) | (simp only [z0, Bool.false_and, Bool.and_false]; rfl)), eb⟩
 ·skip
  cases z1 : decide ((v.bytes.length : Int) ≤ 400)
  ·have x1 : decide (v.bytes.length ≤ 400) = false := by rw [← z1]; first | exact (dec_le _ _).symm | exact (beqN _ _).symm
   go_enter Tryz.func82, Tryz.ntmps82
   go_wp2
   go_ret
   exact ⟨ret_bool (by first | rfl | (simp; done) | (simp only [z0, z1, Bool.false_and, Bool.and_false]; rfl)), eb⟩
  ·have x1 : decide (v.bytes.length ≤ 400) = true := by rw [← z1]; first | exact (dec_le _ _).symm | exact (beqN _ _).symm
   cases z2 : ((v.items.length : Int) == 0)
   ·skip
    go_enter Tryz.func82, Tryz.ntmps82
    go_wp2
    go_ret
    exact ⟨ret_bool (by first | rfl | (simp; done) | (simp only [z0, z1, z2, Bool.false_and, Bool.and_false]; rfl)), eb⟩
   ·skip
    go_enter Tryz.func82, Tryz.ntmps82
    go_wp2
    go_ret
    exact ⟨ret_bool (by first | rfl | (simp; done) | (simp only [z0, z1, z2]; rfl)), eb⟩
theorem sOwn_5 (A : Option Addr) (ds : List DRule) (c : Nat) (r : DRule) (Ab : Option Addr) (cb : Nat) (An : Option Addr) (cn : Nat) (At : Option Addr) (ct : Nat) (Ak : Option Addr) (ck : Nat) (v : DVal) (Vb : Option Addr) (vb : Nat) (Vi : Option Addr) (vi : Nat) (w : World) (hd : RdD w A ds c) (h : RdS w r Ab cb An cn At ct Ak ck) (hb : v.bytes.length ≤ 9223372036854775807) (hi : v.items.length ≤ 9223372036854775807) (hk : r.kind = 5) (hkl : 0 < r.kids.length) :
 Gives Tryz.prog 82 #[vdesc (.slice A ds.length c), vrule r (.slice Ab r.bytes.length cb) (.slice An r.names.length cn) (.slice At r.tags.length ct) (.slice Ak r.kids.length ck), vval v (.slice Vb v.bytes.length vb) (.slice Vi v.items.length vi)] w (.bool (ownV ds r v.num v.bytes.length v.items.length)) := by
 have HE := Lib.hid (own_5 ds r v hk)
 rw [HE.out]; clear HE
 obtain ⟨bk, ok, hAk, hbk, hck⟩ := h.k.at 0 hkl
 subst hAk
 have hlt := h.t.len; have hlk := h.k.len
 have eb := Ext_alloc (.cells #[.int .i64 v.num, .slice Vb v.bytes.length vb, .slice Vi v.items.length vi] 29) (Ext_alloc (.cells #[.string r.nm, .int .i64 r.kind, .int .i64 r.size, .bool r.little, .slice Ab r.bytes.length cb, .slice An r.names.length cn, .slice At r.tags.length ct, .slice (some ⟨bk, ok, none⟩) r.kids.length ck] 51) (Ext_alloc (.cells #[.slice A ds.length c] 26) (Ext.refl w)))
 have BX := fun w' (e : Ext (((w.alloc (.cells #[.slice A ds.length c] 26)).alloc (.cells #[.string r.nm, .int .i64 r.kind, .int .i64 r.size, .bool r.little, .slice Ab r.bytes.length cb, .slice An r.names.length cn, .slice At r.tags.length ct, .slice (some ⟨bk, ok, none⟩) r.kids.length ck] 51)).alloc (.cells #[.int .i64 v.num, .slice Vb v.bytes.length vb, .slice Vi v.items.length vi] 29)) w') => boxed3 e
 have B0 := fun w' e => (BX w' e).1 0; have B1 := fun w' e => (BX w' e).2.1; have B2 := fun w' e => (BX w' e).2.2.1
 simp only [List.getElem?_toArray, List.getElem?_cons_zero] at B0
 clear BX
 have q1 : (r.kind == 1) = false := by rw [hk]; rfl
 have q2 : (r.kind == 2) = false := by rw [hk]; rfl
 have q3 : (r.kind == 3) = false := by rw [hk]; rfl
 have q4 : (r.kind == 4) = false := by rw [hk]; rfl
 have q10 : (r.kind == 10) = false := by rw [hk]; rfl
 have q5 : (r.kind == 5) = true := by rw [hk]; rfl
 have q6 : (r.kind == 6) = false := by rw [hk]; rfl
 have q7 : (r.kind == 7) = false := by rw [hk]; rfl
 have q8 : (r.kind == 8) = false := by rw [hk]; rfl
 have q9 : (r.kind == 9) = false := by rw [hk]; rfl
 simp only [Nat.add_zero] at hck
 replace hck := fun w' (e : Ext (((w.alloc (.cells #[.slice A ds.length c] 26)).alloc (.cells #[.string r.nm, .int .i64 r.kind, .int .i64 r.size, .bool r.little, .slice Ab r.bytes.length cb, .slice An r.names.length cn, .slice At r.tags.length ct, .slice (some ⟨bk, ok, none⟩) r.kids.length ck] 51)).alloc (.cells #[.int .i64 v.num, .slice Vb v.bytes.length vb, .slice Vi v.items.length vi] 29)) w') => hck w' (eb.trans e)
 have hg0 : r.kids.getD 0 0 = r.kids[0] := by simp [hkl]
 rw [hg0]
 generalize r.kids[0] = kz at *
 have CL := Lib.hid (fun w h => sLimit_c A ds c kz w h)
 have HD := Lib.hid hd
 have hkl2 : (0 : Int) < (r.kids.length : Int) := by omega
 generalize limD ds kz = L at *
 have CM := Lib.hid (fun w => sMin_c 40 L w)
 generalize (if L < 40 then L else 40) = M at *
 clear h hk hd
 unfold vdesc vrule vval at *
 cases z0 : (v.num == 0)
 ·skip
  go_enter Tryz.func82, Tryz.ntmps82
  go_wp2_with fail
  refine wp_region_quiet_below (by kernel_rfl) (by kernel_rfl) ?_
  repeat (go_big_quiet_step ((first | (go_at_call 93; exact Calls.regrown_of (CL.out _ (HD.out.ext (eb.trans (by first | assumption | exact Ext_regrown _ _ (Ext.refl _)))))) | (go_at_call 47; exact Calls.regrown_of (CM.out _)))))
  refine wpQuiet_nil ?_
  rintro w1 ⟨⟨nq, osq⟩, hq⟩
  have ew1 := ext_of_q hq
  clear hq nq osq
  go_wp2
  go_ret
  exact ⟨ret_bool (by first | rfl | (simp; done) | (simp only [z0, Bool.false_and, Bool.and_false]; rfl)), eb.trans ew1⟩
 ·skip
  cases z1 : ((v.bytes.length : Int) == 0)
  ·skip
   go_enter Tryz.func82, Tryz.ntmps82
   go_wp2_with fail
   refine wp_region_quiet_below (by kernel_rfl) (by kernel_rfl) ?_
   repeat (go_big_quiet_step ((first | (go_at_call 93; exact Calls.regrown_of (CL.out _ (HD.out.ext (eb.trans (by first | assumption | exact Ext_regrown _ _ (Ext.refl _)))))) | (go_at_call 47; exact Calls.regrown_of (CM.out _)))))
   refine wpQuiet_nil ?_
   rintro w1 ⟨⟨nq, osq⟩, hq⟩
   have ew1 := ext_of_q hq
   clear hq nq osq
   go_wp2
   go_ret
   exact ⟨ret_bool (by first | rfl | (simp; done) | (simp only [z0, z1, Bool.false_and, Bool.and_false]; rfl)), eb.trans ew1⟩
  ·skip
   cases z2 : decide ((v.items.length : Int) ≤ M)
   ·skip
    go_enter Tryz.func82, Tryz.ntmps82
    go_wp2_with fail
    refine wp_region_quiet_below (by kernel_rfl) (by kernel_rfl) ?_
    repeat (go_big_quiet_step ((first | (go_at_call 93; exact Calls.regrown_of (CL.out _ (HD.out.ext (eb.trans (by first | assumption | exact Ext_regrown _ _ (Ext.refl _)))))) | (go_at_call 47; exact Calls.regrown_of (CM.out _)))))
    refine wpQuiet_nil ?_
    rintro w1 ⟨⟨nq, osq⟩, hq⟩
    have ew1 := ext_of_q hq
    clear hq nq osq
    go_wp2
    go_ret
    exact ⟨ret_bool (by first | rfl | (simp; done) | (simp only [z0, z1, z2, Bool.false_and, Bool.and_false]; rfl)), eb.trans ew1⟩
   ·skip
    go_enter Tryz.func82, Tryz.ntmps82
    go_wp2_with fail
    refine wp_region_quiet_below (by kernel_rfl) (by kernel_rfl) ?_
    repeat (go_big_quiet_step ((first | (go_at_call 93; exact Calls.regrown_of (CL.out _ (HD.out.ext (eb.trans (by first | assumption | exact Ext_regrown _ _ (Ext.refl _)))))) | (go_at_call 47; exact Calls.regrown_of (CM.out _)))))
    refine wpQuiet_nil ?_
    rintro w1 ⟨⟨nq, osq⟩, hq⟩
    have ew1 := ext_of_q hq
    clear hq nq osq
    go_wp2
    go_ret
    exact ⟨ret_bool (by first | rfl | (simp; done) | (simp only [z0, z1, z2]; rfl)), eb.trans ew1⟩
theorem sOwn_6 (A : Option Addr) (ds : List DRule) (c : Nat) (r : DRule) (Ab : Option Addr) (cb : Nat) (An : Option Addr) (cn : Nat) (At : Option Addr) (ct : Nat) (Ak : Option Addr) (ck : Nat) (v : DVal) (Vb : Option Addr) (vb : Nat) (Vi : Option Addr) (vi : Nat) (w : World) (hd : RdD w A ds c) (h : RdS w r Ab cb An cn At ct Ak ck) (hb : v.bytes.length ≤ 9223372036854775807) (hi : v.items.length ≤ 9223372036854775807) (hk : r.kind = 6) :
 Gives Tryz.prog 82 #[vdesc (.slice A ds.length c), vrule r (.slice Ab r.bytes.length cb) (.slice An r.names.length cn) (.slice At r.tags.length ct) (.slice Ak r.kids.length ck), vval v (.slice Vb v.bytes.length vb) (.slice Vi v.items.length vi)] w (.bool (ownV ds r v.num v.bytes.length v.items.length)) := by
 have HE := Lib.hid (own_6 ds r v hk)
 rw [HE.out]; clear HE
 have hlt := h.t.len; have hlk := h.k.len
 have eb := Ext_alloc (.cells #[.int .i64 v.num, .slice Vb v.bytes.length vb, .slice Vi v.items.length vi] 29) (Ext_alloc (.cells #[.string r.nm, .int .i64 r.kind, .int .i64 r.size, .bool r.little, .slice Ab r.bytes.length cb, .slice An r.names.length cn, .slice At r.tags.length ct, .slice Ak r.kids.length ck] 51) (Ext_alloc (.cells #[.slice A ds.length c] 26) (Ext.refl w)))
 have BX := fun w' (e : Ext (((w.alloc (.cells #[.slice A ds.length c] 26)).alloc (.cells #[.string r.nm, .int .i64 r.kind, .int .i64 r.size, .bool r.little, .slice Ab r.bytes.length cb, .slice An r.names.length cn, .slice At r.tags.length ct, .slice Ak r.kids.length ck] 51)).alloc (.cells #[.int .i64 v.num, .slice Vb v.bytes.length vb, .slice Vi v.items.length vi] 29)) w') => boxed3 e
 have B0 := fun w' e => (BX w' e).1 0; have B1 := fun w' e => (BX w' e).2.1; have B2 := fun w' e => (BX w' e).2.2.1
 simp only [List.getElem?_toArray, List.getElem?_cons_zero] at B0
 clear BX
 have q1 : (r.kind == 1) = false := by rw [hk]; rfl
 have q2 : (r.kind == 2) = false := by rw [hk]; rfl
 have q3 : (r.kind == 3) = false := by rw [hk]; rfl
 have q4 : (r.kind == 4) = false := by rw [hk]; rfl
 have q10 : (r.kind == 10) = false := by rw [hk]; rfl
 have q5 : (r.kind == 5) = false := by rw [hk]; rfl
 have q6 : (r.kind == 6) = true := by rw [hk]; rfl
 have q7 : (r.kind == 7) = false := by rw [hk]; rfl
 have q8 : (r.kind == 8) = false := by rw [hk]; rfl
 have q9 : (r.kind == 9) = false := by rw [hk]; rfl
 clear h hk
 unfold vdesc vrule vval
 cases z0 : (v.num == 0)
 ·skip
  go_enter Tryz.func82, Tryz.ntmps82
  go_wp2
  go_ret
  exact ⟨ret_bool (by first | rfl | (simp; done) | (simp only [z0, Bool.false_and, Bool.and_false]; rfl)), eb⟩
 ·skip
  cases z1 : ((v.bytes.length : Int) == 0)
  ·skip
   go_enter Tryz.func82, Tryz.ntmps82
   go_wp2
   go_ret
   exact ⟨ret_bool (by first | rfl | (simp; done) | (simp only [z0, z1, Bool.false_and, Bool.and_false]; rfl)), eb⟩
  ·skip
   cases z2 : ((v.items.length : Int) == (r.kids.length : Int))
   ·have x2 : (v.items.length == r.kids.length) = false := by rw [← z2]; first | exact (dec_le _ _).symm | exact (beqN _ _).symm
    go_enter Tryz.func82, Tryz.ntmps82
    go_wp2
    go_ret
    exact ⟨ret_bool (by first | rfl | (simp; done) | (simp only [z0, z1, z2, Bool.false_and, Bool.and_false]; rfl)), eb⟩
   ·have x2 : (v.items.length == r.kids.length) = true := by rw [← z2]; first | exact (dec_le _ _).symm | exact (beqN _ _).symm
    go_enter Tryz.func82, Tryz.ntmps82
    go_wp2
    go_ret
    exact ⟨ret_bool (by first | rfl | (simp; done) | (simp only [z0, z1, z2]; rfl)), eb⟩
theorem sOwn_7 (A : Option Addr) (ds : List DRule) (c : Nat) (r : DRule) (Ab : Option Addr) (cb : Nat) (An : Option Addr) (cn : Nat) (At : Option Addr) (ct : Nat) (Ak : Option Addr) (ck : Nat) (v : DVal) (Vb : Option Addr) (vb : Nat) (Vi : Option Addr) (vi : Nat) (w : World) (hd : RdD w A ds c) (h : RdS w r Ab cb An cn At ct Ak ck) (hb : v.bytes.length ≤ 9223372036854775807) (hi : v.items.length ≤ 9223372036854775807) (hk : r.kind = 7) (hl : r.kids.length = r.tags.length + 1) (hkn : ∀ j (hj : j < r.kids.length), r.kids[j] = (kd r j : Int)) :
 Gives Tryz.prog 82 #[vdesc (.slice A ds.length c), vrule r (.slice Ab r.bytes.length cb) (.slice An r.names.length cn) (.slice At r.tags.length ct) (.slice Ak r.kids.length ck), vval v (.slice Vb v.bytes.length vb) (.slice Vi v.items.length vi)] w (.bool (ownV ds r v.num v.bytes.length v.items.length)) := by
 have HE := Lib.hid (own_7 ds r v hk)
 rw [HE.out]; clear HE
 have hlt := h.t.len; have hlk := h.k.len
 have eb := Ext_alloc (.cells #[.int .i64 v.num, .slice Vb v.bytes.length vb, .slice Vi v.items.length vi] 29) (Ext_alloc (.cells #[.string r.nm, .int .i64 r.kind, .int .i64 r.size, .bool r.little, .slice Ab r.bytes.length cb, .slice An r.names.length cn, .slice At r.tags.length ct, .slice Ak r.kids.length ck] 51) (Ext_alloc (.cells #[.slice A ds.length c] 26) (Ext.refl w)))
 have BX := fun w' (e : Ext (((w.alloc (.cells #[.slice A ds.length c] 26)).alloc (.cells #[.string r.nm, .int .i64 r.kind, .int .i64 r.size, .bool r.little, .slice Ab r.bytes.length cb, .slice An r.names.length cn, .slice At r.tags.length ct, .slice Ak r.kids.length ck] 51)).alloc (.cells #[.int .i64 v.num, .slice Vb v.bytes.length vb, .slice Vi v.items.length vi] 29)) w') => boxed3 e
 have B0 := fun w' e => (BX w' e).1 0; have B1 := fun w' e => (BX w' e).2.1; have B2 := fun w' e => (BX w' e).2.2.1
 simp only [List.getElem?_toArray, List.getElem?_cons_zero] at B0
 clear BX
 have q1 : (r.kind == 1) = false := by rw [hk]; rfl
 have q2 : (r.kind == 2) = false := by rw [hk]; rfl
 have q3 : (r.kind == 3) = false := by rw [hk]; rfl
 have q4 : (r.kind == 4) = false := by rw [hk]; rfl
 have q10 : (r.kind == 10) = false := by rw [hk]; rfl
 have q5 : (r.kind == 5) = false := by rw [hk]; rfl
 have q6 : (r.kind == 6) = false := by rw [hk]; rfl
 have q7 : (r.kind == 7) = true := by rw [hk]; rfl
 have q8 : (r.kind == 8) = false := by rw [hk]; rfl
 have q9 : (r.kind == 9) = false := by rw [hk]; rfl
 have CI := Lib.hid (fun t w h => sItem_c r Ab cb An cn At ct Ak ck t w h hk hl hkn)
 have HS := Lib.hid h
 clear hl hkn
 clear h hk
 unfold vdesc vrule vval at *
 have F3 : Hid (tagN r.tags v.num < r.tags.length → (if tagN r.tags v.num < r.tags.length then (kd r (tagN r.tags v.num + 1) : Int) else -1) = (kd r (tagN r.tags v.num + 1) : Int)) := fun hh => if_pos hh
 have G3 : Hid (¬ tagN r.tags v.num < r.tags.length → (if tagN r.tags v.num < r.tags.length then (kd r (tagN r.tags v.num + 1) : Int) else -1) = -1) := fun hh => if_neg hh
 cases z0 : ((v.bytes.length : Int) == 0)
 ·clear CI
  go_enter Tryz.func82, Tryz.ntmps82
  go_wp2
  go_ret
  exact ⟨ret_bool (by first | rfl | (simp; done) | (simp only [z0, Bool.false_and, Bool.and_false]; rfl)), eb⟩
 ·cases z1 : ((v.items.length : Int) == 1)
  ·clear CI
   go_enter Tryz.func82, Tryz.ntmps82
   go_wp2
   go_ret
   exact ⟨ret_bool (by first | rfl | (simp; done) | (simp only [z0, z1, Bool.false_and, Bool.and_false]; rfl)), eb⟩
  ·have CX := Lib.hid (fun w h => CI.out v.num w h)
   clear CI
   by_cases hin : tagN r.tags v.num < r.tags.length
   ·have z2 : decide (tagN r.tags v.num < r.tags.length) = true := by simpa using hin
    have HR := Lib.hid (F3.out hin)
    rw [HR.out] at CX
    generalize kd r (tagN r.tags v.num + 1) = y at *
    clear hin F3 G3 HR
    go_enter Tryz.func82, Tryz.ntmps82
    go_wp2_with fail
    refine (CX.out _ (HS.out.ext eb)).mono ?_; rintro _ w1 ⟨rfl, he1⟩
    go_wp2
    go_ret
    exact ⟨ret_bool (by rw [z2]; first | rfl | (simp; done) | (simp; omega)), eb.trans he1⟩
   ·have z2 : decide (tagN r.tags v.num < r.tags.length) = false := by simpa using hin
    have HR := Lib.hid (G3.out hin)
    rw [HR.out] at CX
    clear hin F3 G3 HR
    go_enter Tryz.func82, Tryz.ntmps82
    go_wp2_with fail
    refine (CX.out _ (HS.out.ext eb)).mono ?_; rintro _ w1 ⟨rfl, he1⟩
    go_wp2
    go_ret
    exact ⟨ret_bool (by rw [z2]; first | rfl | (simp; done) | (simp; omega)), eb.trans he1⟩
theorem sOwn_8 (A : Option Addr) (ds : List DRule) (c : Nat) (r : DRule) (Ab : Option Addr) (cb : Nat) (An : Option Addr) (cn : Nat) (At : Option Addr) (ct : Nat) (Ak : Option Addr) (ck : Nat) (v : DVal) (Vb : Option Addr) (vb : Nat) (Vi : Option Addr) (vi : Nat) (w : World) (hd : RdD w A ds c) (h : RdS w r Ab cb An cn At ct Ak ck) (hb : v.bytes.length ≤ 9223372036854775807) (hi : v.items.length ≤ 9223372036854775807) (hk : r.kind = 8) :
 Gives Tryz.prog 82 #[vdesc (.slice A ds.length c), vrule r (.slice Ab r.bytes.length cb) (.slice An r.names.length cn) (.slice At r.tags.length ct) (.slice Ak r.kids.length ck), vval v (.slice Vb v.bytes.length vb) (.slice Vi v.items.length vi)] w (.bool (ownV ds r v.num v.bytes.length v.items.length)) := by
 have HE := Lib.hid (own_8 ds r v hk)
 rw [HE.out]; clear HE
 have hlt := h.t.len; have hlk := h.k.len
 have eb := Ext_alloc (.cells #[.int .i64 v.num, .slice Vb v.bytes.length vb, .slice Vi v.items.length vi] 29) (Ext_alloc (.cells #[.string r.nm, .int .i64 r.kind, .int .i64 r.size, .bool r.little, .slice Ab r.bytes.length cb, .slice An r.names.length cn, .slice At r.tags.length ct, .slice Ak r.kids.length ck] 51) (Ext_alloc (.cells #[.slice A ds.length c] 26) (Ext.refl w)))
 have BX := fun w' (e : Ext (((w.alloc (.cells #[.slice A ds.length c] 26)).alloc (.cells #[.string r.nm, .int .i64 r.kind, .int .i64 r.size, .bool r.little, .slice Ab r.bytes.length cb, .slice An r.names.length cn, .slice At r.tags.length ct, .slice Ak r.kids.length ck] 51)).alloc (.cells #[.int .i64 v.num, .slice Vb v.bytes.length vb, .slice Vi v.items.length vi] 29)) w') => boxed3 e
 have B0 := fun w' e => (BX w' e).1 0; have B1 := fun w' e => (BX w' e).2.1; have B2 := fun w' e => (BX w' e).2.2.1
 simp only [List.getElem?_toArray, List.getElem?_cons_zero] at B0
 clear BX
 have q1 : (r.kind == 1) = false := by rw [hk]; rfl
 have q2 : (r.kind == 2) = false := by rw [hk]; rfl
 have q3 : (r.kind == 3) = false := by rw [hk]; rfl
 have q4 : (r.kind == 4) = false := by rw [hk]; rfl
 have q10 : (r.kind == 10) = false := by rw [hk]; rfl
 have q5 : (r.kind == 5) = false := by rw [hk]; rfl
 have q6 : (r.kind == 6) = false := by rw [hk]; rfl
 have q7 : (r.kind == 7) = false := by rw [hk]; rfl
 have q8 : (r.kind == 8) = true := by rw [hk]; rfl
 have q9 : (r.kind == 9) = false := by rw [hk]; rfl
 clear h hk
 unfold vdesc vrule vval
 cases z0 : (v.num == 0)
 ·skip
  go_enter Tryz.func82, Tryz.ntmps82
  go_wp2
  go_ret
  exact ⟨ret_bool (by first | rfl | (simp; done) | (simp only [z0, Bool.false_and, Bool.and_false]; rfl)), eb⟩
 ·skip
  cases z1 : ((v.bytes.length : Int) == 0)
  ·skip
   go_enter Tryz.func82, Tryz.ntmps82
   go_wp2
   go_ret
   exact ⟨ret_bool (by first | rfl | (simp; done) | (simp only [z0, z1, Bool.false_and, Bool.and_false]; rfl)), eb⟩
  ·skip
   cases z2 : decide ((v.items.length : Int) ≤ 1)
   ·have x2 : decide (v.items.length ≤ 1) = false := by rw [← z2]; first | exact (dec_le _ _).symm | exact (beqN _ _).symm
    go_enter Tryz.func82, Tryz.ntmps82
    go_wp2
    go_ret
    exact ⟨ret_bool (by first | rfl | (simp; done) | (simp only [z0, z1, z2, Bool.false_and, Bool.and_false]; rfl)), eb⟩
   ·have x2 : decide (v.items.length ≤ 1) = true := by rw [← z2]; first | exact (dec_le _ _).symm | exact (beqN _ _).symm
    go_enter Tryz.func82, Tryz.ntmps82
    go_wp2
    go_ret
    exact ⟨ret_bool (by first | rfl | (simp; done) | (simp only [z0, z1, z2]; rfl)), eb⟩
theorem sOwn_9 (A : Option Addr) (ds : List DRule) (c : Nat) (r : DRule) (Ab : Option Addr) (cb : Nat) (An : Option Addr) (cn : Nat) (At : Option Addr) (ct : Nat) (Ak : Option Addr) (ck : Nat) (v : DVal) (Vb : Option Addr) (vb : Nat) (Vi : Option Addr) (vi : Nat) (w : World) (hd : RdD w A ds c) (h : RdS w r Ab cb An cn At ct Ak ck) (hb : v.bytes.length ≤ 9223372036854775807) (hi : v.items.length ≤ 9223372036854775807) (hk : r.kind = 9) :
 Gives Tryz.prog 82 #[vdesc (.slice A ds.length c), vrule r (.slice Ab r.bytes.length cb) (.slice An r.names.length cn) (.slice At r.tags.length ct) (.slice Ak r.kids.length ck), vval v (.slice Vb v.bytes.length vb) (.slice Vi v.items.length vi)] w (.bool (ownV ds r v.num v.bytes.length v.items.length)) := by
 have HE := Lib.hid (own_9 ds r v hk)
 rw [HE.out]; clear HE
 have hlt := h.t.len; have hlk := h.k.len
 have eb := Ext_alloc (.cells #[.int .i64 v.num, .slice Vb v.bytes.length vb, .slice Vi v.items.length vi] 29) (Ext_alloc (.cells #[.string r.nm, .int .i64 r.kind, .int .i64 r.size, .bool r.little, .slice Ab r.bytes.length cb, .slice An r.names.length cn, .slice At r.tags.length ct, .slice Ak r.kids.length ck] 51) (Ext_alloc (.cells #[.slice A ds.length c] 26) (Ext.refl w)))
 have BX := fun w' (e : Ext (((w.alloc (.cells #[.slice A ds.length c] 26)).alloc (.cells #[.string r.nm, .int .i64 r.kind, .int .i64 r.size, .bool r.little, .slice Ab r.bytes.length cb, .slice An r.names.length cn, .slice At r.tags.length ct, .slice Ak r.kids.length ck] 51)).alloc (.cells #[.int .i64 v.num, .slice Vb v.bytes.length vb, .slice Vi v.items.length vi] 29)) w') => boxed3 e
 have B0 := fun w' e => (BX w' e).1 0; have B1 := fun w' e => (BX w' e).2.1; have B2 := fun w' e => (BX w' e).2.2.1
 simp only [List.getElem?_toArray, List.getElem?_cons_zero] at B0
 clear BX
 have q1 : (r.kind == 1) = false := by rw [hk]; rfl
 have q2 : (r.kind == 2) = false := by rw [hk]; rfl
 have q3 : (r.kind == 3) = false := by rw [hk]; rfl
 have q4 : (r.kind == 4) = false := by rw [hk]; rfl
 have q10 : (r.kind == 10) = false := by rw [hk]; rfl
 have q5 : (r.kind == 5) = false := by rw [hk]; rfl
 have q6 : (r.kind == 6) = false := by rw [hk]; rfl
 have q7 : (r.kind == 7) = false := by rw [hk]; rfl
 have q8 : (r.kind == 8) = false := by rw [hk]; rfl
 have q9 : (r.kind == 9) = true := by rw [hk]; rfl
 clear h hk
 unfold vdesc vrule vval
 cases z0 : (v.num == 0)
 ·skip
  go_enter Tryz.func82, Tryz.ntmps82
  go_wp2
  go_ret
  exact ⟨ret_bool (by first | rfl | (simp; done) | (simp only [z0, Bool.false_and, Bool.and_false]; rfl)), eb⟩
 ·skip
  cases z1 : ((v.bytes.length : Int) == 0)
  ·skip
   go_enter Tryz.func82, Tryz.ntmps82
   go_wp2
   go_ret
   exact ⟨ret_bool (by first | rfl | (simp; done) | (simp only [z0, z1, Bool.false_and, Bool.and_false]; rfl)), eb⟩
  ·skip
   cases z2 : ((v.items.length : Int) == 1)
   ·skip
    go_enter Tryz.func82, Tryz.ntmps82
    go_wp2
    go_ret
    exact ⟨ret_bool (by first | rfl | (simp; done) | (simp only [z0, z1, z2, Bool.false_and, Bool.and_false]; rfl)), eb⟩
   ·skip
    go_enter Tryz.func82, Tryz.ntmps82
    go_wp2
    go_ret
    exact ⟨ret_bool (by first | rfl | (simp; done) | (simp only [z0, z1, z2]; rfl)), eb⟩
def fitV (ds : List DRule) (r : DRule) (n : Int) (b m : Nat) : Bool :=
 if r.kind = 7 then (decide (0 ≤ n) && decide (n ≤ limD ds (r.kids.getD 0 0))) && (decide ((b : Int) ≤ 0) && decide ((m : Int) = 1)) else ownV ds r n b m
theorem kidV5 {r : DRule} (h : r.kind = 5) (n : Int) (j : Nat) : kidV r n j = kd r 1 := by unfold kidV; rw [if_pos h]
theorem kidV6 {r : DRule} (h : r.kind = 6) (n : Int) (j : Nat) : kidV r n j = kd r j := by unfold kidV; rw [if_neg (by omega), if_pos h]
theorem kidV7 {r : DRule} (h : r.kind = 7) (n : Int) (j : Nat) : kidV r n j = kd r (tagN r.tags n + 1) := by unfold kidV; rw [if_neg (by omega), if_neg (by omega), if_pos h]
theorem kidV8 {r : DRule} (h : r.kind = 8 ∨ r.kind = 9) (n : Int) (j : Nat) : kidV r n j = kd r 0 := by unfold kidV; rw [if_neg (by omega), if_neg (by omega), if_neg (by omega)]
def ItemAt (r : DRule) (n : Int) (j : Nat) : Prop :=
 (r.kind = 5 ∧ 1 < r.kids.length) ∨ (r.kind = 6 ∧ j < r.kids.length ∧ j < r.names.length) ∨ (r.kind = 7 ∧ j = 0 ∧ tagN r.tags n < r.tags.length ∧ tagN r.tags n + 1 < r.kids.length) ∨ ((r.kind = 8 ∨ r.kind = 9) ∧ j = 0 ∧ 0 < r.kids.length)
theorem sItemV_c (r : DRule) (Ab : Option Addr) (cb : Nat) (An : Option Addr) (cn : Nat) (At : Option Addr) (ct : Nat) (Ak : Option Addr) (ck : Nat) (n : Int) (j : Nat) (w : World) (h : RdS w r Ab cb An cn At ct Ak ck) (hj : j ≤ 9223372036854775807) (hat : ItemAt r n j) (h7 : r.kind = 7 → r.kids.length = r.tags.length + 1) (hkn : ∀ j (hj : j < r.kids.length), r.kids[j] = (kd r j : Int)) :
 Gives Tryz.prog 58 #[vrule r (.slice Ab r.bytes.length cb) (.slice An r.names.length cn) (.slice At r.tags.length ct) (.slice Ak r.kids.length ck), .int .i64 n, .int .i64 (j : Int)] w (.int .i64 (kidV r n j : Nat)) := by
 have hlk := h.k.len
 have go : ∀ t (ht : t < r.kids.length), ∃ bk ok, Ak = some ⟨bk, ok, none⟩ ∧ ∀ (w' : World), Ext w w' → w'.cell? ⟨bk, ok + t, none⟩ = some (.int .i64 (kd r t : Int)) := fun t ht => by
  obtain ⟨bk, ok, hA, _, hc⟩ := h.k.at t ht
  rw [hkn t ht] at hc
  exact ⟨bk, ok, hA, hc⟩
 rcases hat with ⟨hk, hl⟩ | ⟨hk, hl, _⟩ | ⟨hk, rfl, hl, _⟩ | ⟨hk, rfl, hl⟩
 ·rw [kidV5 hk]
  obtain ⟨bk, ok, rfl, hc⟩ := go 1 hl
  have q5 : (r.kind == 5) = true := by rw [hk]; rfl
  have eb := Ext_alloc (.cells #[.string r.nm, .int .i64 r.kind, .int .i64 r.size, .bool r.little, .slice Ab r.bytes.length cb, .slice An r.names.length cn, .slice At r.tags.length ct, .slice (some ⟨bk, ok, none⟩) r.kids.length ck] 51) (Ext.refl w)
  have hl2 : (1 : Int) < (r.kids.length : Int) := by omega
  generalize kd r 1 = y at *
  clear go hkn h7 h hk
  unfold vrule
  go_enter Tryz.func58, Tryz.ntmps58
  go_wp2
  go_ret
  exact ⟨rfl, eb⟩
 ·rw [kidV6 hk]
  obtain ⟨bk, ok, rfl, hc⟩ := go j hl
  have q5 : (r.kind == 5) = false := by rw [hk]; rfl
  have q6 : (r.kind == 6) = true := by rw [hk]; rfl
  have eb := Ext_alloc (.cells #[.string r.nm, .int .i64 r.kind, .int .i64 r.size, .bool r.little, .slice Ab r.bytes.length cb, .slice An r.names.length cn, .slice At r.tags.length ct, .slice (some ⟨bk, ok, none⟩) r.kids.length ck] 51) (Ext.refl w)
  have d1 : decide ((j : Int) < (r.kids.length : Int)) = true := decide_eq_true (by omega)
  have hl2 : (j : Int) < (r.kids.length : Int) := by omega
  generalize kd r j = y at *
  clear go hkn h7 h hk
  unfold vrule
  go_enter Tryz.func58, Tryz.ntmps58
  go_wp2
  go_ret
  exact ⟨rfl, eb⟩
 ·have C := sItem_c r Ab cb An cn At ct Ak ck n w h hk (h7 hk) hkn
  rw [if_pos hl] at C
  rw [kidV7 hk]
  exact C
 ·rw [kidV8 hk]
  obtain ⟨bk, ok, rfl, hc⟩ := go 0 hl
  have q5 : (r.kind == 5) = false := by rcases hk with hk | hk <;> rw [hk] <;> rfl
  have q6 : (r.kind == 6) = false := by rcases hk with hk | hk <;> rw [hk] <;> rfl
  have q7 : (r.kind == 7) = false := by rcases hk with hk | hk <;> rw [hk] <;> rfl
  have eb := Ext_alloc (.cells #[.string r.nm, .int .i64 r.kind, .int .i64 r.size, .bool r.little, .slice Ab r.bytes.length cb, .slice An r.names.length cn, .slice At r.tags.length ct, .slice (some ⟨bk, ok, none⟩) r.kids.length ck] 51) (Ext.refl w)
  have hl2 : (0 : Int) < (r.kids.length : Int) := by omega
  simp only [Nat.add_zero] at hc
  generalize kd r 0 = y at *
  clear go hkn h7 h
  unfold vrule
  rcases hk with hk | hk
  ·have q8 : (r.kind == 8) = true := by rw [hk]; rfl
   clear hk
   go_enter Tryz.func58, Tryz.ntmps58
   go_wp2
   go_ret
   exact ⟨rfl, eb⟩
  ·have q8 : (r.kind == 8) = false := by rw [hk]; rfl
   have q9 : (r.kind == 9) = true := by rw [hk]; rfl
   clear hk
   go_enter Tryz.func58, Tryz.ntmps58
   go_wp2
   go_ret
   exact ⟨rfl, eb⟩
def kidI (r : DRule) (n : Int) (j : Nat) : Int := if r.kind = 7 then (if tagN r.tags n < r.tags.length then (kd r (tagN r.tags n + 1) : Int) else -1) else (kidV r n j : Int)
def ItemAtI (r : DRule) (j : Nat) : Prop :=
 (r.kind = 5 ∧ 1 < r.kids.length) ∨ (r.kind = 6 ∧ j < r.kids.length) ∨ (r.kind = 7 ∧ r.kids.length = r.tags.length + 1) ∨ ((r.kind = 8 ∨ r.kind = 9) ∧ 0 < r.kids.length)
end Go.Proofs.YtpmcofmdjckijaaGreatDoor
namespace Go.Proofs.YtpmcofmdjckijaaGreatDoor
theorem itemsF_congr {rd rd' : Nat → Nat → RR} {r : DRule} {n : Int} {M : Nat} (h : ∀ k, k < M → ∀ a, rd (kidV r n k) a = rd' (kidV r n k) a) : ∀ (m k a : Nat) (acc : List DVal), k + m ≤ M → itemsF rd r n m k a acc = itemsF rd' r n m k a acc
 | 0, _, _, _, _ => rfl
 | m + 1, k, a, acc, hk => by
  rw [itemsF, itemsF, h k (by omega)]
  split
  ·exact itemsF_congr h m (k + 1) _ _ (by omega)
  ·rfl
theorem kid_below {ds : List DRule} (h : descOk ds = true) (i : Nat) (hi : i < ds.length) {n : Int} {k : Nat} (hat : ItemAt ds[i] n k) : kidV ds[i] n k < i := by
 have hl := kd_lt h i hi
 rcases hat with ⟨e, c⟩ | ⟨e, c, _⟩ | ⟨e, _, _, c⟩ | ⟨e, _, c⟩
 ·rw [kidV5 e]; exact hl 1 c
 ·rw [kidV6 e]; exact hl k c
 ·rw [kidV7 e]; exact hl _ c
 ·rw [kidV8 e]; exact hl 0 c
structure ReadsOk (r : DRule) (ok : Int → Nat → Prop) : Prop where
 arr : r.kind = 5 → ∀ k, ok 0 k
 seq : r.kind = 6 → ∀ k, k < r.kids.length → ok 0 k
 cho : r.kind = 7 → ∀ n, tagN r.tags n < r.tags.length → ok n 0
 opt : r.kind = 8 ∨ r.kind = 9 → ok 0 0
theorem readsOk {ds : List DRule} (h : descOk ds = true) (i : Nat) (hi : i < ds.length) : ReadsOk ds[i] (ItemAt ds[i]) := by
 obtain ⟨k4, k5, k6, k7, k8, _, _⟩ := kids_len h i hi
 refine ⟨fun e k => .inl ⟨e, by have := k5 e; omega⟩, fun e k hk => .inr (.inl ⟨e, hk, by have := (k6 e).1; omega⟩), fun e n hn => .inr (.inr (.inl ⟨e, rfl, hn, by have := (k7 e).1; omega⟩)), fun e => .inr (.inr (.inr ⟨e, rfl, by have := k8 e; omega⟩))⟩
theorem readR_congr {ds : List DRule} {r : DRule} {rd rd' : Nat → Nat → RR} (hk : 1 ≤ r.kind ∧ r.kind ≤ 10) (h : ReadsOk r (fun n k => ∀ a, rd (kidV r n k) a = rd' (kidV r n k) a)) (b : List UInt8) (a : Nat) : readR ds rd r b a = readR ds rd' r b a := by
 unfold readR
 by_cases c1 : r.kind = 1
 ·rw [if_pos c1, if_pos c1]
 rw [if_neg c1, if_neg c1]
 by_cases c2 : r.kind = 2
 ·rw [if_pos c2, if_pos c2]
 rw [if_neg c2, if_neg c2]
 by_cases c3 : r.kind = 3
 ·rw [if_pos c3, if_pos c3]
 rw [if_neg c3, if_neg c3]
 by_cases c10 : r.kind = 10
 ·rw [if_pos c10, if_pos c10]
 rw [if_neg c10, if_neg c10]
 by_cases c6 : r.kind = 6
 ·rw [if_pos c6, if_pos c6]
  exact itemsF_congr (M := r.kids.length) (fun k hk a => h.seq c6 k hk a) _ _ _ _ (by omega)
 rw [if_neg c6, if_neg c6]
 by_cases c7 : r.kind = 7
 ·rw [if_pos c7, if_pos c7]
  unfold choiceF
  cases intAt (ds.getD (kd r 0) noRule) b a with
  | none => rfl
  | some n =>
   dsimp only
   by_cases ht : tagN r.tags (n : Int) < r.tags.length
   ·rw [if_pos ht, if_pos ht]
    have hc : itemsF rd r n 1 0 (a + (ds.getD (kd r 0) noRule).size.toNat) [] = itemsF rd' r n 1 0 (a + (ds.getD (kd r 0) noRule).size.toNat) [] :=
     itemsF_congr (M := 1) (fun k hk a => by obtain rfl : k = 0 := by omega
                                             exact h.cho c7 n ht a) _ _ _ _ (by omega)
    rw [hc]
   ·rw [if_neg ht, if_neg ht]
 rw [if_neg c7, if_neg c7]
 by_cases c8 : r.kind = 8
 ·rw [if_pos c8, if_pos c8]
  unfold optionF
  cases b[a]? with
  | none => rfl
  | some x =>
   dsimp only
   by_cases hx : 1 < x.toNat
   ·rw [if_pos hx, if_pos hx]
   ·rw [if_neg hx, if_neg hx]
    exact itemsF_congr (M := 1) (fun k hk a => by obtain rfl : k = 0 := by omega
                                                  exact h.opt (.inl c8) a) _ _ _ _ (by omega)
 rw [if_neg c8, if_neg c8]
 by_cases c9 : r.kind = 9
 ·rw [if_pos c9, if_pos c9]
  unfold checkedF
  have hc : itemsF rd r 0 1 0 a [] = itemsF rd' r 0 1 0 a [] :=
   itemsF_congr (M := 1) (fun k hk a => by obtain rfl : k = 0 := by omega
                                           exact h.opt (.inr c9) a) _ _ _ _ (by omega)
  rw [hc]
 rw [if_neg c9, if_neg c9]
 cases intAt (ds.getD (kd r 0) noRule) b a with
 | none => rfl
 | some n =>
  dsimp only
  by_cases c4 : r.kind = 4
  ·rw [if_pos c4, if_pos c4]
  rw [if_neg c4, if_neg c4]
  by_cases hn : 40 < n
  ·rw [if_pos hn, if_pos hn]
  ·rw [if_neg hn, if_neg hn]
   exact itemsF_congr (M := n) (fun k hk a => h.arr (by omega) k a) _ _ _ _ (by omega)
theorem rdF_fuel {ds : List DRule} (h : descOk ds = true) (b : List UInt8) : ∀ f f' i a, i < f → i < f' → i < ds.length → rdF ds b f i a = rdF ds b f' i a := by
 intro f
 induction f with
 | zero => intro f' i a hf; omega
 | succ f ih =>
  intro f' i a hf hf' hi
  obtain ⟨g, rfl⟩ : ∃ g, f' = g + 1 := ⟨f' - 1, by omega⟩
  have hg : ds.getD i noRule = ds[i] := by simp [hi]
  rw [rdF, rdF, hg]
  have hR := readsOk h i hi
  have key : ∀ n k, ItemAt ds[i] n k → ∀ a, rdF ds b f (kidV ds[i] n k) a = rdF ds b g (kidV ds[i] n k) a := fun n k hat a => by
   have := kid_below h i hi hat
   exact ih g _ a (by omega) (by omega) (by omega)
  exact readR_congr (ruleFacts h i hi).kind ⟨fun e k => key _ _ (hR.arr e k), fun e k hk => key _ _ (hR.seq e k hk), fun e n hn => key _ _ (hR.cho e n hn), fun e => key _ _ (hR.opt e)⟩ b a
theorem readV_step {ds : List DRule} (h : descOk ds = true) (b : List UInt8) (i a : Nat) (hi : i < ds.length) : readV ds b i a = readR ds (readV ds b) ds[i] b a := by
 have hg : ds.getD i noRule = ds[i] := by simp [hi]
 show rdF ds b (i + 1) i a = _
 rw [rdF, hg]
 have hR := readsOk h i hi
 have key : ∀ n k, ItemAt ds[i] n k → ∀ a, rdF ds b i (kidV ds[i] n k) a = readV ds b (kidV ds[i] n k) a := fun n k hat a => by
  have := kid_below h i hi hat
  exact rdF_fuel h b _ _ _ a (by omega) (by omega) (by omega)
 exact readR_congr (ruleFacts h i hi).kind ⟨fun e k => key _ _ (hR.arr e k), fun e k hk => key _ _ (hR.seq e k hk), fun e n hn => key _ _ (hR.cho e n hn), fun e => key _ _ (hR.opt e)⟩ b a
theorem itemsF_next {rd : Nat → Nat → RR} {L : Nat} (h : ∀ i a, a ≤ L → (rd i a).next ≤ L) (r : DRule) (n : Int) : ∀ (m k a : Nat) (acc : List DVal), a ≤ L → (itemsF rd r n m k a acc).next ≤ L
 | 0, _, _, _, ha => ha
 | m + 1, k, a, acc, ha => by
  rw [itemsF]
  split
  ·exact itemsF_next h r n m (k + 1) _ _ (h _ _ ha)
  ·exact h _ _ ha
theorem constF_next (b : List UInt8) (a : Nat) : ∀ (c : List UInt8) (i : Nat), a + i ≤ b.length → (constF b a c i).next ≤ b.length
 | [], i, h => by rw [constF]; exact h
 | c :: t, i, h => by
  rw [constF]
  split
  ·show a ≤ _; omega
  ·rename_i x hx
   have hlt := (List.getElem?_eq_some_iff.1 hx).1
   split
   ·exact constF_next b a t (i + 1) (by omega)
   ·exact h
theorem untilL_le (t : UInt8) : ∀ (n : Nat) (l : List UInt8) (q : List UInt8 × Nat), l.length ≤ n → untilL t l = some q → q.2 ≤ l.length ∧ q.1.length < l.length
 | 0, l, q, hn, h => by
  obtain rfl : l = [] := List.eq_nil_of_length_eq_zero (by omega)
  rw [untilL] at h; cases h
 | n + 1, [], q, hn, h => by rw [untilL] at h; cases h
 | n + 1, [x], q, hn, h => by
  rw [untilL] at h
  split at h
  ·injection h with h; subst h; simp
  ·cases h
 | n + 1, x :: y :: l, q, hn, h => by
  rw [untilL] at h
  simp only [List.length_cons] at hn
  split at h
  ·injection h with h; subst h; simp
  ·split at h
   ·rw [Option.map_eq_some_iff] at h
    obtain ⟨p, hp, rfl⟩ := h
    have := untilL_le t n l p (by omega) hp
    simp; omega
   ·rw [Option.map_eq_some_iff] at h
    obtain ⟨p, hp, rfl⟩ := h
    have := untilL_le t n (y :: l) p (by simp; omega) hp
    simp at this ⊢; omega
theorem bytesF_next (b : List UInt8) (a n : Nat) (ha : a ≤ b.length) : (bytesF b a n).next ≤ b.length := by
 unfold bytesF
 split
 ·exact ha
 ·show a + n ≤ _; omega
theorem intAt_le {r : DRule} {b : List UInt8} {a n : Nat} (ha : a ≤ b.length) (h : intAt r b a = some n) : a + r.size.toNat ≤ b.length := by
 unfold intAt at h
 split at h
 ·cases h
 ·omega
theorem readR_next {ds : List DRule} {r : DRule} {rd : Nat → Nat → RR} {b : List UInt8} (h : ∀ i a, a ≤ b.length → (rd i a).next ≤ b.length) (a : Nat) (ha : a ≤ b.length) : (readR ds rd r b a).next ≤ b.length := by
 have hI := fun n m k a acc ha => itemsF_next h r n m k a acc ha
 unfold readR
 by_cases c1 : r.kind = 1
 ·rw [if_pos c1]
  cases hn : intAt r b a with
  | none => exact ha
  | some n => exact intAt_le ha hn
 rw [if_neg c1]
 by_cases c2 : r.kind = 2
 ·rw [if_pos c2]; exact constF_next b a _ 0 (by omega)
 rw [if_neg c2]
 by_cases c3 : r.kind = 3
 ·rw [if_pos c3]; exact bytesF_next b a _ ha
 rw [if_neg c3]
 by_cases c10 : r.kind = 10
 ·rw [if_pos c10]
  cases hq : untilL (r.bytes.getD 0 0) (b.drop a) with
  | none => exact ha
  | some q =>
   have := untilL_le _ _ _ q (Nat.le_refl _) hq
   rw [List.length_drop] at this
   show a + q.2 ≤ _; omega
 rw [if_neg c10]
 by_cases c6 : r.kind = 6
 ·rw [if_pos c6]; exact hI _ _ _ _ _ ha
 rw [if_neg c6]
 by_cases c7 : r.kind = 7
 ·rw [if_pos c7]
  unfold choiceF
  cases hn : intAt (ds.getD (kd r 0) noRule) b a with
  | none => exact ha
  | some n =>
   have h2 := intAt_le ha hn
   dsimp only
   split
   ·split
    ·exact hI _ _ _ _ _ h2
    ·exact hI _ _ _ _ _ h2
   ·exact ha
 rw [if_neg c7]
 by_cases c8 : r.kind = 8
 ·rw [if_pos c8]
  unfold optionF
  cases hx : b[a]? with
  | none => exact ha
  | some x =>
   have hlt := (List.getElem?_eq_some_iff.1 hx).1
   dsimp only
   split
   ·exact ha
   ·exact hI _ _ _ _ _ (by omega)
 rw [if_neg c8]
 by_cases c9 : r.kind = 9
 ·rw [if_pos c9]
  unfold checkedF
  split
  ·cases hx : b[(itemsF rd r 0 1 0 a []).next]? with
   | none => exact hI _ _ _ _ _ ha
   | some x =>
    have hlt := (List.getElem?_eq_some_iff.1 hx).1
    dsimp only
    split
    ·show _ + 1 ≤ _; omega
    ·exact hI _ _ _ _ _ ha
  ·exact hI _ _ _ _ _ ha
 rw [if_neg c9]
 cases hn : intAt (ds.getD (kd r 0) noRule) b a with
 | none => exact ha
 | some n =>
  have h2 := intAt_le ha hn
  dsimp only
  split
  ·exact bytesF_next b _ _ h2
  split
  ·exact ha
  ·exact hI _ _ _ _ _ h2
theorem rdF_next {ds : List DRule} {b : List UInt8} : ∀ f i a, a ≤ b.length → (rdF ds b f i a).next ≤ b.length
 | 0, _, _, ha => ha
 | f + 1, i, a, ha => by rw [rdF]; exact readR_next (fun i a ha => rdF_next f i a ha) a ha
theorem readV_next {ds : List DRule} {b : List UInt8} {i a : Nat} (ha : a ≤ b.length) : (readV ds b i a).next ≤ b.length := rdF_next _ _ _ ha
theorem itemsF_ge {rd : Nat → Nat → RR} (h : ∀ i a, a ≤ (rd i a).next) (r : DRule) (n : Int) : ∀ (m k a : Nat) (acc : List DVal), a ≤ (itemsF rd r n m k a acc).next
 | 0, _, _, _ => Nat.le_refl _
 | m + 1, k, a, acc => by
  rw [itemsF]
  split
  ·exact Nat.le_trans (h _ a) (itemsF_ge h r n m (k + 1) _ _)
  ·exact h _ _
theorem constF_ge (b : List UInt8) (a : Nat) : ∀ (c : List UInt8) (i : Nat), a ≤ (constF b a c i).next
 | [], i => by rw [constF]; exact Nat.le_add_right _ _
 | c :: t, i => by
  rw [constF]
  split
  ·exact Nat.le_refl _
  ·split
   ·exact constF_ge b a t (i + 1)
   ·exact Nat.le_add_right _ _
theorem readR_ge {ds : List DRule} {r : DRule} {rd : Nat → Nat → RR} {b : List UInt8} (h : ∀ i a, a ≤ (rd i a).next) (a : Nat) : a ≤ (readR ds rd r b a).next := by
 have hI := fun n m k a acc => itemsF_ge h r n m k a acc
 have hB : ∀ a n, a ≤ (bytesF b a n).next := fun a n => by
  unfold bytesF; split
  ·exact Nat.le_refl _
  ·exact Nat.le_add_right _ _
 unfold readR
 by_cases c1 : r.kind = 1
 ·rw [if_pos c1]
  cases intAt r b a with
  | none => exact Nat.le_refl _
  | some n => exact Nat.le_add_right _ _
 rw [if_neg c1]
 by_cases c2 : r.kind = 2
 ·rw [if_pos c2]; exact constF_ge b a _ 0
 rw [if_neg c2]
 by_cases c3 : r.kind = 3
 ·rw [if_pos c3]; exact hB _ _
 rw [if_neg c3]
 by_cases c10 : r.kind = 10
 ·rw [if_pos c10]
  cases untilL (r.bytes.getD 0 0) (b.drop a) with
  | none => exact Nat.le_refl _
  | some q => exact Nat.le_add_right _ _
 rw [if_neg c10]
 by_cases c6 : r.kind = 6
 ·rw [if_pos c6]; exact hI _ _ _ _ _
 rw [if_neg c6]
 by_cases c7 : r.kind = 7
 ·rw [if_pos c7]
  unfold choiceF
  cases intAt (ds.getD (kd r 0) noRule) b a with
  | none => exact Nat.le_refl _
  | some n =>
   have h2 := hI n 1 0 (a + (ds.getD (kd r 0) noRule).size.toNat) []
   dsimp only
   split
   ·split
    ·dsimp only; omega
    ·omega
   ·exact Nat.le_refl _
 rw [if_neg c7]
 by_cases c8 : r.kind = 8
 ·rw [if_pos c8]
  unfold optionF
  cases b[a]? with
  | none => exact Nat.le_refl _
  | some x =>
   dsimp only
   split
   ·exact Nat.le_refl _
   ·have := hI 0 x.toNat 0 (a + 1) []; omega
 rw [if_neg c8]
 by_cases c9 : r.kind = 9
 ·rw [if_pos c9]
  unfold checkedF
  have h2 := hI 0 1 0 a []
  split
  ·cases b[(itemsF rd r 0 1 0 a []).next]? with
   | none => exact h2
   | some x =>
    dsimp only
    split
    ·dsimp only; omega
    ·exact h2
  ·exact h2
 rw [if_neg c9]
 cases intAt (ds.getD (kd r 0) noRule) b a with
 | none => exact Nat.le_refl _
 | some n =>
  have h2 := hB (a + (ds.getD (kd r 0) noRule).size.toNat) n
  have h3 := hI 0 n 0 (a + (ds.getD (kd r 0) noRule).size.toNat) []
  dsimp only
  split
  ·omega
  split
  ·exact Nat.le_refl _
  ·omega
theorem rdF_ge {ds : List DRule} {b : List UInt8} : ∀ f i a, a ≤ (rdF ds b f i a).next
 | 0, _, _ => Nat.le_refl _
 | f + 1, i, a => by rw [rdF]; exact readR_ge (fun i a => rdF_ge f i a) a
theorem readV_ge {ds : List DRule} {b : List UInt8} {i a : Nat} : a ≤ (readV ds b i a).next := rdF_ge _ _ _
end Go.Proofs.YtpmcofmdjckijaaGreatDoor
namespace Go.Proofs.YtpmcofmdjckijaaGreatDoor
open Go.RowKit Go.Sort
theorem sOwn_c (A : Option Addr) (ds : List DRule) (c : Nat) (i : Nat) (hi : i < ds.length) (Ab : Option Addr) (cb : Nat) (An : Option Addr) (cn : Nat) (At : Option Addr) (ct : Nat) (Ak : Option Addr) (ck : Nat) (v : DVal) (Vb : Option Addr) (vb : Nat) (Vi : Option Addr) (vi : Nat) (w : World) (hok : descOk ds = true) (hd : RdD w A ds c) (h : RdS w ds[i] Ab cb An cn At ct Ak ck) (hb : v.bytes.length ≤ 9223372036854775807) (hm : v.items.length ≤ 9223372036854775807) :
 Gives Tryz.prog 82 #[vdesc (.slice A ds.length c), vrule ds[i] (.slice Ab ds[i].bytes.length cb) (.slice An ds[i].names.length cn) (.slice At ds[i].tags.length ct) (.slice Ak ds[i].kids.length ck), vval v (.slice Vb v.bytes.length vb) (.slice Vi v.items.length vi)] w (.bool (ownV ds ds[i] v.num v.bytes.length v.items.length)) := by
 obtain ⟨k4, k5, k6, k7, k8, k1, k3⟩ := kids_len hok i hi
 have hk := (ruleFacts hok i hi).kind
 have hkn := kd_int hok i hi
 rcases (by omega : ds[i].kind = 1 ∨ ds[i].kind = 2 ∨ ds[i].kind = 3 ∨ ds[i].kind = 4 ∨ ds[i].kind = 5 ∨ ds[i].kind = 6 ∨ ds[i].kind = 7 ∨ ds[i].kind = 8 ∨ ds[i].kind = 9 ∨ ds[i].kind = 10) with e | e | e | e | e | e | e | e | e | e
 ·exact sOwn_1 A ds c _ Ab cb An cn At ct Ak ck v Vb vb Vi vi w hd h hb hm e (k1 e)
 ·exact sOwn_2 A ds c _ Ab cb An cn At ct Ak ck v Vb vb Vi vi w hd h hb hm e
 ·exact sOwn_3 A ds c _ Ab cb An cn At ct Ak ck v Vb vb Vi vi w hd h hb hm e
 ·exact sOwn_4 A ds c _ Ab cb An cn At ct Ak ck v Vb vb Vi vi w hd h hb hm e (by have := (k4 e).1; omega)
 ·exact sOwn_5 A ds c _ Ab cb An cn At ct Ak ck v Vb vb Vi vi w hd h hb hm e (by have := (k5 e).1; omega)
 ·exact sOwn_6 A ds c _ Ab cb An cn At ct Ak ck v Vb vb Vi vi w hd h hb hm e
 ·exact sOwn_7 A ds c _ Ab cb An cn At ct Ak ck v Vb vb Vi vi w hd h hb hm e (k7 e).1 hkn
 ·exact sOwn_8 A ds c _ Ab cb An cn At ct Ak ck v Vb vb Vi vi w hd h hb hm e
 ·exact sOwn_9 A ds c _ Ab cb An cn At ct Ak ck v Vb vb Vi vi w hd h hb hm e
 ·exact sOwn_10 A ds c _ Ab cb An cn At ct Ak ck v Vb vb Vi vi w hd h hb hm e
def sValOk (A : Option Addr) (ds : List DRule) (c : Nat) (v : DVal) : Prop := ∀ (i : Nat) (_ : i < ds.length) (Vb : Option Addr) (vb : Nat) (Vi : Option Addr) (vi : Nat) (w : World), RdD w A ds c → RdV w v Vb vb Vi vi →
 Gives Tryz.prog 66 #[vdesc (.slice A ds.length c), .int .i64 (i : Int), vval v (.slice Vb v.bytes.length vb) (.slice Vi v.items.length vi)] w (.bool (validV ds i v))
theorem sVal_of (A : Option Addr) (ds : List DRule) (c : Nat) (hok : descOk ds = true) (v : DVal) (H : ∀ x ∈ v.items, sValOk A ds c x) : sValOk A ds c v := by
 intro i hi Vb vb Vi vi w hd hv
 have hl := hd.len
 have HOK := Lib.hid hok
 obtain ⟨b, ro, Ab, cb, An, cn, At, ct, Ak, ck, hA, hbb, hS, hR⟩ := hd.at i hi
 have hbl := hv.b.len; have hil := hv.i.len
 have CO := Lib.hid (fun w h1 h2 => sOwn_c A ds c i hi Ab cb An cn At ct Ak ck v Vb vb Vi vi w hok h1 h2 hbl hil)
 have NO0 : Hid (ownV ds ds[i] v.num v.bytes.length v.items.length = false → validV ds i v = false) := fun h => validV_own (hi := hi) h
 have NO1 : Hid (∀ j (hj : j < v.items.length), validV ds (kidV ds[i] v.num j) v.items[j] = false → validV ds i v = false) := fun j hj h => validV_no (hi := hi) hj h
 have YES : Hid (ownV ds ds[i] v.num v.bytes.length v.items.length = true → (∀ j (hj : j < v.items.length), validV ds (kidV ds[i] v.num j) v.items[j] = true) → validV ds i v = true) := fun h1 h2 => validV_yes (hi := hi) h1 h2
 have IT : Hid (ownV ds ds[i] v.num v.bytes.length v.items.length = true → ∀ j, j < v.items.length → kidV ds[i] v.num j < i ∧ ItemAt ds[i] v.num j) := fun h j hj => own_item hok i hi h hj
 have H7 : Hid (ds[i].kind = 7 → ds[i].kids.length = ds[i].tags.length + 1) := fun h => ((kids_len hok i hi).2.2.2.1 h).1
 have HKN := Lib.hid (kd_int hok i hi)
 have HD := Lib.hid hd; have HV := Lib.hid hv; have HS := Lib.hid hS
 have HH := Lib.hid H
 clear hok H hd hv hS
 obtain ⟨W0, HW0, BA, BV, BR, eA, hsA⟩ := boxes3' w #[.slice A ds.length c] #[.int .i64 v.num, .slice Vb v.bytes.length vb, .slice Vi v.items.length vi] #[.string ds[i].nm, .int .i64 ds[i].kind, .int .i64 ds[i].size, .bool ds[i].little, .slice Ab ds[i].bytes.length cb, .slice An ds[i].names.length cn, .slice At ds[i].tags.length ct, .slice Ak ds[i].kids.length ck] 26 29 51
 have B0 := BA.at 0; have B1 := BV.at; have B2 := BR.at
 simp only [List.getElem?_toArray, List.getElem?_cons_zero] at B0
 clear BA BV BR
 unfold vdesc vval
 obtain ⟨k0, k1, k2, k3, k4, k5, k6, k7⟩ := hR
 have CX : Hid (∀ j, ItemAt ds[i] v.num j → j ≤ 9223372036854775807 → ∀ w', Ext W0 w' → Gives Tryz.prog 58 #[.agg #[.string ds[i].nm, .int .i64 ds[i].kind, .int .i64 ds[i].size, .bool ds[i].little, .slice Ab ds[i].bytes.length cb, .slice An ds[i].names.length cn, .slice At ds[i].tags.length ct, .slice Ak ds[i].kids.length ck], .int .i64 v.num, .int .i64 (j : Int)] w' (.int .i64 (kidV ds[i] v.num j : Nat))) :=
  fun j hj hjl w' e => sItemV_c ds[i] Ab cb An cn At ct Ak ck v.num j w' (HS.out.ext (eA.trans e)) hjl hj H7.out HKN.out
 unfold vdesc vval vrule at CO
 generalize hKV : (fun j => kidV ds[i] v.num j) = KV at *
 have hKV' : ∀ j, kidV ds[i] v.num j = KV j := fun j => by rw [← hKV]
 simp only [hKV'] at NO1 YES IT CX
 clear hKV hKV' H7 HKN
 subst hA
 generalize ownV ds ds[i] v.num v.bytes.length v.items.length = z at *
 generalize ds[i] = r at *
 cases z
 ·have E := Lib.hid (NO0.out rfl)
  rw [E.out]
  clear NO0 NO1 YES IT CX E
  go_enter Tryz.func66, Tryz.ntmps66
  go_wp2_with fail
  rw [← HW0.out]
  refine (CO.out _ (HD.out.ext eA) (HS.out.ext eA)).mono ?_; rintro _ w1 ⟨rfl, he1⟩
  go_wp2
  go_ret
  exact ⟨rfl, eA.trans he1⟩
 ·have IT' := Lib.hid (IT.out rfl); have YES' := Lib.hid (YES.out rfl)
  clear NO0 YES IT
  generalize hR : validV ds i v = R at *
  have HR := Lib.hid hR; clear hR
  go_enter Tryz.func66, Tryz.ntmps66
  go_wp2_with fail
  rw [← HW0.out]
  refine (CO.out _ (HD.out.ext eA) (HS.out.ext eA)).mono ?_; rintro _ w1 ⟨rfl, he1⟩
  clear CO k0 k1 k2 k3 k4 k5 k6 k7
  go_wp2
  go_loopw [8] (fun ix wr => ∃ k : Nat, k ≤ v.items.length ∧ ix = .int .i64 k ∧ Hid (∀ j (hj : j < v.items.length), j < k → validV ds (KV j) v.items[j] = true) ∧ Ext W0 wr) (fun ix _ => v.items.length - (intOf ix).toNat)
  case atStart => exact ⟨0, by omega, rfl, (fun j _ hj => by omega), he1⟩
  case round =>
   obtain ⟨k, hk, rfl, ht, he⟩ := hrel
   by_cases hlt : k < v.items.length
   ·obtain ⟨bb, off, A1, c1, D1, d1, hVi, hb, hs, hr⟩ := HV.out.i.at k hlt
    subst hVi
    have Hk := HH.out _ (List.getElem_mem hlt)
    obtain ⟨hkl, hat⟩ := IT'.out k hlt
    have CE := Lib.hid (fun w' (e : Ext W0 w') => Hk (KV k) (by omega) A1 c1 D1 d1 w' (HD.out.ext (eA.trans e)) (hs.ext (eA.trans e)))
    have CJ := Lib.hid (CX.out k hat (by omega))
    have NO : Hid (validV ds (KV k) v.items[k] = false → R = false) := fun h => NO1.out k hlt h
    have YE : Hid (validV ds (KV k) v.items[k] = true → ∀ j (h1 : j < v.items.length), j < k + 1 → validV ds (KV j) v.items[j] = true) := by
     intro hy j h1 hj
     rcases (by omega : j < k ∨ j = k) with hj | rfl
     ·exact ht.out j h1 hj
     ·exact hy
    generalize hX : v.items[k] = x at *
    clear hX
    generalize hY : KV k = y at *
    clear hY hkl hat Hk hs
    generalize validV ds y x = zz at *
    obtain ⟨j0, j1, j2⟩ := hr
    replace j0 := fun w' (e : Ext W0 w') => j0 w' (eA.trans e)
    replace j1 := fun w' (e : Ext W0 w') => j1 w' (eA.trans e)
    replace j2 := fun w' (e : Ext W0 w') => j2 w' (eA.trans e)
    unfold vdesc vval at CE
    have hkk : (0 : Int) ≤ (k : Int) := by omega
    have hkl : (k : Int) < (v.items.length : Int) := by omega
    have HT := ht; clear ht
    go_wp2_with fail
    refine wp_region_quiet_below (by kernel_rfl) (by kernel_rfl) ?_
    repeat (go_big_quiet_step ((first | (go_at_call 58; exact Calls.regrown_of (CJ.out _ (Ext.trans he (by first | assumption | exact Ext_regrown _ _ (Ext.refl _))))) | (go_at_call 66; exact Calls.regrown_of (CE.out _ (Ext.trans he (by first | assumption | exact Ext_regrown _ _ (Ext.refl _))))))))
    refine wpQuiet_nil ?_
    rintro w2 ⟨⟨nq, osq⟩, hq⟩
    have ew2 := ext_of_q hq
    clear hq nq osq
    have he2 := he.trans ew2
    cases zz
    ·have NO' := Lib.hid (NO.out rfl); clear NO YE
     go_wp2
     go_ret
     exact ⟨ret_bool NO'.out.symm, eA.trans he2⟩
    ·have YE' := Lib.hid (YE.out rfl); clear NO YE
     go_wp2
     go_roundw
     case rel => exact ⟨k+1, by omega, by go_num, YE'.out, he2⟩
     case measure => simp [intOf]; omega
   ·have hk' : k = v.items.length := by omega
    have HE : Hid (R = true) := YES'.out (fun j hj => ht.out j hj (by omega))
    go_wp2
    go_ret
    exact ⟨ret_bool HE.out.symm, eA.trans he⟩
theorem sVal_all (A : Option Addr) (ds : List DRule) (c : Nat) (hok : descOk ds = true) : ∀ v, sValOk A ds c v := fun v => DVal.ind (sVal_of A ds c hok) v
def validB (ds : List DRule) (i : Int) (v : DVal) : Bool := knownB ds i && validV ds i.toNat v
theorem validB_no {ds : List DRule} {i : Int} (h : knownB ds i = false) (v : DVal) : validB ds i v = false := by unfold validB; rw [h]; rfl
theorem validB_yes {ds : List DRule} {k : Nat} (h : knownB ds (k : Int) = true) (v : DVal) : validB ds (k : Int) v = validV ds k v := by unfold validB; rw [h, Int.toNat_natCast]; rfl
theorem knownB_desc {ds : List DRule} {i : Int} (h : knownB ds i = true) : descOk ds = true ∧ ∃ k : Nat, ∃ _ : k < ds.length, i = (k : Int) := by
 unfold knownB at h
 simp at h
 exact ⟨h.1, i.toNat, by omega, by omega⟩
theorem l7Rule_c (A : Option Addr) (ds : List DRule) (c : Nat) (i : Int) (w : World) (hd : RdD w A ds c) (hs : ShortD ds) (hw : WfD ds) :
 Gives Tryz.prog 33 #[vdesc (.slice A ds.length c), .int .i64 i] w (.bool (knownB ds i)) := sKnown_c A ds c i w hd hs hw
theorem sValid_c (A : Option Addr) (ds : List DRule) (c : Nat) (i : Int) (v : DVal) (Vb : Option Addr) (vb : Nat) (Vi : Option Addr) (vi : Nat) (w : World) (hd : RdD w A ds c) (hs : ShortD ds) (hw : WfD ds) (hv : RdV w v Vb vb Vi vi) :
 Gives Tryz.prog 49 #[vdesc (.slice A ds.length c), .int .i64 i, vval v (.slice Vb v.bytes.length vb) (.slice Vi v.items.length vi)] w (.bool (validB ds i v)) := by
 obtain ⟨W0, hW0⟩ : ∃ W0, W0 = ((w.alloc (.cells #[.slice A ds.length c] 26)).alloc (.cells #[.int .i64 v.num, .slice Vb v.bytes.length vb, .slice Vi v.items.length vi] 29)) := ⟨_, rfl⟩
 have eb : Ext w W0 := by rw [hW0]; exact Ext_alloc _ (Ext_alloc _ (Ext.refl w))
 have BX := fun w' (e : Ext W0 w') => boxed2 (hW0 ▸ e)
 have B0 := fun w' e => (BX w' e).1 0
 have B1 := fun w' e => (BX w' e).2.1
 simp only [List.getElem?_toArray, List.getElem?_cons_zero] at B0
 clear BX
 have HW0 := Lib.hid hW0
 have CK := Lib.hid (fun w h => l7Rule_c A ds c i w h hs hw)
 have HD := Lib.hid hd; have HV := Lib.hid hv
 clear hd hv hW0
 cases hk : knownB ds i
 ·have HE := Lib.hid (validB_no hk v)
  rw [HE.out]
  rw [hk] at CK
  unfold vdesc vval at *
  clear hk
  go_enter Tryz.func49, Tryz.ntmps49
  go_wp2_with fail
  rw [← HW0.out]
  refine (CK.out _ (HD.out.ext eb)).mono ?_; rintro _ w1 ⟨rfl, he1⟩
  go_wp2
  go_ret
  exact ⟨rfl, eb.trans he1⟩
 ·obtain ⟨hok, k, hkl, rfl⟩ := knownB_desc hk
  have CV := Lib.hid (fun w h1 h2 => sVal_all A ds c hok v k hkl Vb vb Vi vi w h1 h2)
  have HE := Lib.hid (validB_yes hk v)
  rw [HE.out]
  rw [hk] at CK
  clear HE
  generalize validV ds k v = z at *
  unfold vdesc vval at *
  clear hk hok
  go_enter Tryz.func49, Tryz.ntmps49
  go_wp2_with fail
  rw [← HW0.out]
  refine (CK.out _ (HD.out.ext eb)).mono ?_; rintro _ w1 ⟨rfl, he1⟩
  have e1 := eb.trans he1
  go_wp2_with fail
  refine (CV.out _ (HD.out.ext e1) (HV.out.ext e1)).mono ?_; rintro _ w2 ⟨rfl, he2⟩
  go_wp2
  go_ret
  exact ⟨rfl, e1.trans he2⟩
theorem E_val : Elem Tryz.prog 27 29 3 56 (.agg #[.int .i64 0, .slice none 0 0, .slice none 0 0]) := ⟨Tryz.underlying27, by kernel_rfl, rfl, by omega⟩
section
variable {P : Program} {ops : Array Oper} {o : Oper} {a : Act} {Q : Exit → Act → World → Prop} {K : Act → World → Prop} {E : Prop}
theorem step_appH (hgd : o.guard = none) (s x : Operand) (t : TypeId) (ho : o.op = .call { callee := .builtin .append, args := #[s, x], argTypes := #[t, t] })
 {e : TypeId} {bytes : Nat} {z : Value} (hE : Elem P t e 1 bytes z) (hby : 1 ≤ bytes) (w0 w : World) {α : Type} (f : α → Value) (hf : ∀ x, (f x).oneCell' = true) (v : Value) (hs : a.eval s = v) (A : Option Addr) (m c : Nat) (hx : a.eval x = .slice A m c)
 (l ys : List α) (hown : OwnL f e w0 w v l) (he : Ext w0 w) (hm : m = ys.length)
 (hA : 0 < ys.length → ∃ ad, A = some ad ∧ ∀ j u, (ys.map f)[j]? = some u → w.cell? (ad.add j) = some u)
 (hb : (l.length + ys.length) * bytes ≤ 140737488355328)
 (h : ∀ v' w', OwnL f e w0 w' v' (l ++ ys) → Ext w0 w' → (v'.ownBlock = v.ownBlock ∨ v'.ownBlock = some w.heap.size) → w.grownBy w' v.ownBlock → K (a.put o.dst v') w') :
 if Region.wanted o (yielded ops a.tmps) = true then Oper.wp P o a w K Q else E := by
 have hw : Region.wanted o (yielded ops a.tmps) = true := by simp [Region.wanted, hgd]
 rw [if_pos hw]
 obtain ⟨i0, hi0, hz0, hz1, hz2⟩ := info_parts hE.hi
 subst hm
 have hfin : ∀ v' w', Own e 1 w0 w' v' (l.length + ys.length) (l.map f ++ ys.map f) → Ext w0 w' → (v'.ownBlock = v.ownBlock ∨ v'.ownBlock = some w.heap.size) → w.grownBy w' v.ownBlock → K (a.put o.dst v') w' := fun v' w' h1 h2 h3 h4 => h v' w' (by simpa [OwnL] using h1) h2 h3 h4
 rcases A with _ | ad
 ·have hm0 : ys.length = 0 := by
   rcases Nat.eq_zero_or_pos ys.length with h0 | h0
   ·exact h0
   ·obtain ⟨ad, h, _⟩ := hA h0
    cases h
  obtain rfl : ys = [] := List.eq_nil_of_length_eq_zero hm0
  unfold Oper.wp execOp
  simp only [ho, resolve, invoke, builtin, Sem.run_bind, Sem.run_pure, Result.andThen_ok, List.map_toArray, List.map_cons, List.map_nil, List.length_nil, hs, hx, run_app_nil w w0.heap.size t o.type e i0 1 hE.ht hi0 v l.length (l.map f) hown c]
  exact hfin v w (by have h' := hown; unfold OwnL at h'; simpa using h') he (.inl rfl) (World.grownBy.refl w _)
 ·obtain ⟨v', w', hr, h2, h3, h4, h5⟩ := run_append_own_at (P := P) w w0.heap.size t o.type e i0 z 1 bytes hE.ht hi0 hz0 hz1 hz2 hE.hz hE.hs v l.length (l.map f) hown ad ys.length c (ys.map f) (by simp)
   (fun j u hu => by
    rcases Nat.eq_zero_or_pos ys.length with h0 | h0
    ·obtain rfl : ys = [] := List.eq_nil_of_length_eq_zero h0
     simp at hu
    ·obtain ⟨ad', h', hc⟩ := hA h0
     injection h' with h'
     subst h'
     exact hc j u hu)
   (fun u hu => by obtain ⟨x, _, rfl⟩ := List.mem_map.1 hu; exact hf x) (by have := Nat.mul_le_mul_left (l.length + ys.length) hby; simp only [maxLen]; omega) hb he.size
  unfold Oper.wp execOp
  simp only [ho, resolve, invoke, builtin, Sem.run_bind, Sem.run_pure, Result.andThen_ok, List.map_toArray, List.map_cons, List.map_nil, hs, hx, hr]
  exact hfin v' w' h2 (he.grown h3 (fun k hk => (hown.lt k hk).1)) h5 h3
end
theorem OwnTs.snoc {W0 wr w2 w4 : World} {v v' : Value} {ps : List VT} {p : VT} (h : OwnTs W0 wr v ps) (e2 : Ext wr w2) (hro : OwnT wr w2 p) (hfr : Far p.vals) (hb : W0.heap.size ≤ wr.heap.size) {cs : Array Value} {T : TypeId}
 (ho4 : Own 29 3 W0 w4 v' (ps.length + 1) (ps.flatMap VT.cells ++ p.cells)) (hg4 : (w2.alloc (.cells cs T)).grownBy w4 v.ownBlock) (hv : v'.ownBlock = v.ownBlock ∨ v'.ownBlock = some (w2.alloc (.cells cs T)).heap.size) : OwnTs W0 w4 v' (ps ++ [p]) := by
 have ex := Ext_alloc (.cells cs T) (Ext.refl w2)
 have hsz : (w2.alloc (.cells cs T)).heap.size = w2.heap.size + 1 := by simp
 have hbl := h.block
 have hfar := h.far
 unfold Far at hfar
 rw [List.pairwise_cons] at hfar
 have hs2 := e2.size
 refine ⟨?_, fun q hq => ?_, ?_⟩
 ·rw [List.length_append, List.flatMap_append, List.flatMap_cons, List.flatMap_nil, List.append_nil]; exact ho4
 ·rcases List.mem_append.1 hq with hq | hq
  ·refine (((h.each q hq).ext e2).ext ex).keep hg4 (fun u hu g hg he => ?_)
   exact hfar.1 u (List.mem_flatMap.2 ⟨q, hq, hu⟩) g he hg
  ·obtain rfl := List.mem_singleton.1 hq
   refine ((hro.ext ex).keep hg4 (fun u hu g hg he => ?_)).down hb
   have h1 := (hro.block u hu g hg).1
   have h2 := (hbl v (List.mem_cons_self ..) g he).2
   omega
 ·rw [List.flatMap_append, List.flatMap_cons, List.flatMap_nil, List.append_nil]
  have hold : ∀ u ∈ ps.flatMap VT.vals, ∀ g, u.ownBlock = some g → g < wr.heap.size := fun u hu g hg => (hbl u (List.mem_cons_of_mem _ hu) g hg).2
  have hnew : ∀ u ∈ p.vals, ∀ g, u.ownBlock = some g → wr.heap.size ≤ g ∧ g < w2.heap.size := fun u hu g hg => hro.block u hu g hg
  refine Far.cons (Far.append hfar.2 hfr (fun u hu x hx g h1 h2 => by have := hold u hu g h1; have := (hnew x hx g h2).1; omega)) (fun x hx g h1 h2 => ?_)
  rcases hv with hv | hv
  ·rw [hv] at h1
   rcases List.mem_append.1 hx with hx | hx
   ·exact hfar.1 x hx g h1 h2
   ·have := (hbl v (List.mem_cons_self ..) g h1).2; have := (hnew x hx g h2).1; omega
  ·rw [hv, hsz] at h1
   injection h1 with h1
   rcases List.mem_append.1 hx with hx | hx
   ·have := hold x hx g h2; omega
   ·have := (hnew x hx g h2).2; omega
theorem OwnT.one {w0 w : World} {t : VT} (h : OwnT w0 w t) : ∀ u ∈ t.cells, u.oneCell' = true := by
 obtain ⟨A, c, e1⟩ := Own.shape (show Own _ 1 w0 w t.vb t.bs.length _ from h.b)
 obtain ⟨A', c', e2⟩ := Own.shape h.i
 exact VT.one (by rw [e1]; rfl) (by rw [e2]; rfl)
theorem OwnTs.nil (w0 w : World) : OwnTs w0 w (.slice none 0 0) [] := ⟨⟨by simp, .inl ⟨rfl, rfl⟩⟩, fun p hp => by simp at hp, Far.one _⟩
theorem rdN_take {l : List UInt8} {k : Nat} (h : k < l.length) : rdN (l.take (k+1)) = rdN (l.take k) * 256 + l[k].toNat := by
 rw [List.take_succ_eq_append_getElem h, rdN_snoc]
theorem rdN_lt : ∀ (l : List UInt8), l.length ≤ 4 → rdN l < 4294967296 := by
 intro l h
 have h8 := fun (x : UInt8) => x.toNat_lt
 match l, h with
 | [], _ => decide
 | [a], _ => have := h8 a; simp [rdN]; omega
 | [a, b], _ => have := h8 a; have := h8 b; simp [rdN]; omega
 | [a, b, c], _ => have := h8 a; have := h8 b; have := h8 c; simp [rdN]; omega
 | [a, b, c, d], _ => have := h8 a; have := h8 b; have := h8 c; have := h8 d; simp [rdN]; omega
theorem readInt_c (A : Option Addr) (l : List UInt8) (c : Nat) (t : Bool) (w : World) (h : Bs w A l c) (hl : l.length ≤ 4) :
 Gives Tryz.prog 85 #[.slice A l.length c, .bool t] w (.int .i64 (rdN (if t then l.reverse else l) : Nat)) := by
 obtain ⟨L, hL⟩ : ∃ L, L = (if t then l.reverse else l) := ⟨_, rfl⟩
 have hLl : L.length = l.length := by rw [hL]; cases t <;> simp
 have hLk : ∀ k (hk : k < l.length) , L[k]'(by omega) = if t then l[l.length - 1 - k]'(by omega) else l[k] := by
  intro k hk; subst hL; cases t <;> simp
 rw [← hL]
 have HLL := Lib.hid hLl
 clear hL
 cases t
 all_goals
  simp only [if_true, if_false, Bool.false_eq_true] at hLk
  have HLK := Lib.hid hLk
  clear hLk
  go_enter Tryz.func85, Tryz.ntmps85
  go_wp2
  go_loopw [5, 6, 7] (fun n i _ wr => ∃ k : Nat, k ≤ l.length ∧ i = .int .i64 k ∧ n = .int .i64 (rdN (L.take k) : Nat) ∧ Ext w wr) (fun _ i _ _ => l.length - (intOf i).toNat)
  case atStart => exact ⟨0, by omega, rfl, by simp [rdN], Ext.refl _⟩
  case round =>
   obtain ⟨k, hk, rfl, rfl, he⟩ := hrel
   by_cases hlt : k < l.length
   ·have hst := Lib.hid (rdN_take (l := L) (k := k) (by have := HLL.out; omega))
    have hg := HLK.out k hlt
    have h1 := rdN_lt (L.take k) (by have := HLL.out; simp; omega)
    first
     | (obtain ⟨b, off, rfl, hb, hc⟩ := h.at k hlt
        rw [← hg] at hc)
     | (obtain ⟨b, off, rfl, hb, hc⟩ := h.at (l.length - 1 - k) (by omega)
        rw [← hg] at hc)
    have h3 := (L[k]'(by have := HLL.out; omega)).toNat_lt
    generalize hs : rdN (L.take k) = s at *
    generalize L[k]'(by have := HLL.out; omega) = y at *
    have hci := fun w' (e : Ext w w') => hc w' e
    clear hs hg hc
    have hsub : (l.length : Int) - 1 - (k : Int) = ((l.length - 1 - k : Nat) : Int) := by omega
    go_wp2
    go_roundw
    case rel => exact ⟨k+1, by omega, by go_num, by rw [hst.out]; go_num, he⟩
    case measure => simp [intOf]; omega
   ·obtain rfl : k = l.length := by omega
    have ht : rdN (L.take l.length) = rdN L := by rw [List.take_of_length_le (by have := HLL.out; omega)]
    have HT := Lib.hid ht; clear ht
    go_wp2
    go_ret
    exact ⟨ret_i64 (by rw [HT.out]), he⟩
theorem rd_sub {w : World} {b off : Nat} {l : List UInt8} {c : Nat} (h : Bs w (some ⟨b, off, none⟩) l c) {i n : Nat} (hp : 0 < l.length) (hn : i + n ≤ l.length) : Bs w (some ⟨b, off + i, none⟩) ((l.drop i).take n) (c - i) := by
 obtain ⟨b', off', h1, hb, hcs⟩ := h.1.2.2 hp
 injection h1 with h1
 injection h1 with q1 q2 q3
 subst q1; subst q2
 have hc := h.cap; have hl := h.len
 have hlen : ((l.drop i).take n).length = n := by simp; omega
 refine ⟨⟨by omega, by omega, fun h0 => ⟨b, off + i, rfl, hb, fun w' e j hj => ?_⟩⟩, by omega⟩
 rw [hlen] at hj
 have := hcs w' e (i + j) (by omega)
 rw [← Nat.add_assoc] at this
 rw [this]; simp
def intRes (o : Option Nat) (a n : Nat) : Value := match o with
 | some k => .tuple #[.int .i64 (k : Int), .int .i64 (n : Int), .bool true]
 | none => .tuple #[.int .i64 0, .int .i64 (a : Int), .bool false]
theorem sInteger_c (A : Option Addr) (ds : List DRule) (c : Nat) (i : Nat) (hi : i < ds.length) (hs : 1 ≤ ds[i].size ∧ ds[i].size ≤ 4) (Ab : Option Addr) (b : List UInt8) (cb a : Nat) (ha : a ≤ b.length) (w : World) (hd : RdD w A ds c) (hb : Bs w Ab b cb) :
 Gives Tryz.prog 69 #[vdesc (.slice A ds.length c), .int .i64 (i : Int), .slice Ab b.length cb, .int .i64 (a : Int)] w (intRes (intAt ds[i] b a) a (a + ds[i].size.toNat)) := by
 have hl := hd.len
 have hbl := hb.len
 have hcap := hb.cap
 obtain ⟨bR, oR, Rb, rb, Rn, rn, Rt, rt, Rk, rk, hA, hbR, hS, hR⟩ := hd.at i hi
 obtain ⟨r0, r1, r2, r3, r4, r5, r6, r7⟩ := hR
 subst hA
 obtain ⟨s, hs0⟩ : ∃ s : Nat, ds[i].size = (s : Int) := ⟨ds[i].size.toNat, by omega⟩
 have hii : (i : Int) < (ds.length : Int) := by omega
 unfold vdesc intAt
 have hst : ds[i].size.toNat = s := by omega
 rw [hst]
 rw [hs0] at r2
 have hs4 : s ≤ 4 := by omega
 have hs1 : 1 ≤ s := by omega
 by_cases hlt : b.length - a < s
 ·rw [if_pos hlt]
  have hlt' : (b.length : Int) - (a : Int) < (s : Int) := by omega
  generalize ds[i] = r at *
  unfold intRes
  go_enter Tryz.func69, Tryz.ntmps69
  go_wp2
  exact bodyPost_ret (v := .tuple #[.int .i64 0, .int .i64 (a : Int), .bool false]) (by simp [results, Tryz.results69, go_sem]) rfl ⟨rfl, Ext_alloc _ (Ext_alloc _ (Ext.refl w))⟩
 ·rw [if_neg hlt]
  obtain ⟨b', off, hAb, _, _⟩ := hb.1.2.2 (by omega)
  subst hAb
  have CR : Hid (∀ w', Ext w w' → Gives Tryz.prog 85 #[.slice (some ⟨b', off + a, none⟩) s (cb - a), .bool ds[i].little] w' (.int .i64 (decI ds[i] ((b.drop a).take s) : Nat))) := fun w' e => by
   have hsub := rd_sub (hb.ext e) (i := a) (n := s) (by omega) (by omega)
   have hlen : ((b.drop a).take s).length = s := by simp; omega
   have := readInt_c _ _ _ ds[i].little w' hsub (by omega)
   rw [hlen] at this
   exact this
  obtain ⟨n, hn⟩ : ∃ n, decI ds[i] ((b.drop a).take s) = n := ⟨_, rfl⟩
  rw [hn] at CR ⊢
  unfold intRes
  have hge : ¬ (b.length : Int) - (a : Int) < (s : Int) := by omega
  have hc1 : (a : Int) ≤ (a : Int) + (s : Int) := by omega
  have hc2 : (a : Int) + (s : Int) ≤ (cb : Int) := by omega
  have hc3 : a ≤ cb := by omega
  have hca : ¬ cb = a := by omega
  generalize ds[i] = r at *
  obtain ⟨W0, HW0, B1, B2, e0, hsA⟩ := boxes2' w #[.slice (some ⟨bR, oR, none⟩) ds.length c] #[.string r.nm, .int .i64 r.kind, .int .i64 (s : Int), .bool r.little, .slice Rb r.bytes.length rb, .slice Rn r.names.length rn, .slice Rt r.tags.length rt, .slice Rk r.kids.length rk] 26 51
  have k2 : ∀ w', Ext W0 w' → _ = some (Value.int .i64 (s : Int)) := fun w' e => B2.at 2 w' e
  have k3 : ∀ w', Ext W0 w' → _ = some (Value.bool r.little) := fun w' e => B2.at 3 w' e
  clear hn hs hs0 hst hb B1 B2
  go_enter Tryz.func69, Tryz.ntmps69
  go_wp2_with fail
  rw [← HW0.out]
  refine wp_region_quiet_below (by kernel_rfl) (by kernel_rfl) ?_
  repeat (go_big_quiet_step ((go_at_call 85; exact Calls.regrown_of (CR.out _ (e0.trans (by first | assumption | exact Ext_regrown _ _ (Ext.refl _)))))))
  refine wpQuiet_nil ?_
  rintro w1 ⟨⟨nq, osq⟩, hq⟩
  have ew1 := ext_of_q hq
  clear hq nq osq
  go_wp2_with fail
  exact bodyPost_ret (v := .tuple #[.int .i64 (n : Int), .int .i64 ((a : Int) + (s : Int)), .bool true]) (by simp [results, Tryz.results69, go_sem]) rfl ⟨by simp, e0.trans ew1⟩
def rrVal (R : RR) (t : VT) : Value := .tuple #[vval R.v t.vb t.vi, .int .i64 (R.next : Int), .int .i64 (R.code : Int)]
def RdOut (R : RR) (w : World) (e : Ending) (w' : World) : Prop := ∃ t, e = .returned (rrVal R t) ∧ GotV w w' t R.v ∧ Ext w w'
def t0 : VT := .mk 0 [] (.slice none 0 0) [] (.slice none 0 0)
theorem GotV.zero (w w' : World) : GotV w w' t0 v0 := by
 refine ⟨rfl, .mk (OwnL.nil _ _) ⟨by simp [t0, VT.its], .inl ⟨rfl, rfl⟩⟩ (fun x hx => by simp [t0, VT.its] at hx), ?_⟩
 rw [VT.vals_eq]
 simp [Far, t0, VT.vb, VT.vi, VT.its, Value.ownBlock]
theorem val_out {w wr : World} {g : Nat} {t : VT} {v : DVal} (hg : w.heap.size ≤ g) (e : Ext w wr) (h : GotV w wr t v) (hne : ∀ u ∈ t.vals, ∀ b, u.ownBlock = some b → b ≠ g) : GotV w (put3 wr g 0 t) t v ∧ Ext w (put3 wr g 0 t) :=
 ⟨⟨h.val, h.own.keep (grown_put3 wr g 0 t) (fun u hu b hb he => by injection he with he; exact hne u hu b hb he.symm), h.far⟩, e.grown (grown_put3 wr g 0 t) (fun b hb => by injection hb with hb; omega)⟩
theorem sBytes_c (Ab : Option Addr) (b : List UInt8) (cb a n : Nat) (ha : a ≤ b.length) (hn : n ≤ 4294967296) (w : World) (hb : Bs w Ab b cb) :
 Calls Tryz.prog 71 #[.slice Ab b.length cb, .int .i64 (a : Int), .int .i64 (n : Int)] w (RdOut (bytesF b a n) w) := by
 have hbl := hb.len
 have hcap := hb.cap
 obtain ⟨W0, HW0, e1, hs0, BR⟩ : ∃ W0, Hid (W0 = w.alloc (.cells #[.int .i64 0, .slice none 0 0, .slice none 0 0] 29)) ∧ Ext w W0 ∧ W0.heap.size = w.heap.size + 1 ∧ Box W0 w.heap.size #[.int .i64 0, .slice none 0 0, .slice none 0 0] 29 := ⟨_, rfl, Ext_alloc _ (Ext.refl w), by simp, Box.new w _ _⟩
 unfold bytesF
 by_cases hlt : b.length - a < n
 ·rw [if_pos hlt]
  have hlt' : (b.length : Int) - (a : Int) < (n : Int) := by omega
  have r2 := BR.cell; have f2 := BR.free
  have e2 := HW0.out ▸ e1
  go_enter Tryz.func71, Tryz.ntmps71
  go_wp2
  exact bodyPost_ret (v := rrVal (.bad a 1) t0) (by simp [results, Tryz.results71, go_sem, rrVal, vval, RR.bad, v0, t0, DVal.num, VT.vb, VT.vi]) rfl ⟨t0, rfl, GotV.zero _ _, e2⟩
 ·rw [if_neg hlt]
  have hge : ¬ (b.length : Int) - (a : Int) < (n : Int) := by omega
  have hc1 : (a : Int) ≤ (a : Int) + (n : Int) := by omega
  have hc2 : (a : Int) + (n : Int) ≤ (cb : Int) := by omega
  have HL : Hid (((b.drop a).take n).length = n) := by show _ = _; simp; omega
  have hE := OwnL.empty (f := vu8) (e := 5) e1
  rw [hs0] at hE
  have HE := Lib.hid hE; clear hE
  have HB : Hid ((([] : List UInt8).length + ((b.drop a).take n).length) * 1 ≤ 140737488355328) := by show _ ≤ _; rw [HL.out]; simp; omega
  have x2 := Ext_alloc (.cells #[] 5) e1
  have BR2 := Lib.hid (BR.ext (Ext_alloc (.cells #[] 5) (Ext.refl _)))
  have HF : Hid (∀ (v4 : Value) (w4 : World), OwnL vu8 5 w w4 v4 ((b.drop a).take n) → v4.ownBlock = some (w.heap.size + 1) ∨ v4.ownBlock = some (W0.alloc (.cells #[] 5)).heap.size → Ext w w4 → GotV w (put3 w4 w.heap.size 0 (.mk 0 ((b.drop a).take n) v4 [] (.slice none 0 0))) (.mk 0 ((b.drop a).take n) v4 [] (.slice none 0 0)) (.mk 0 ((b.drop a).take n) []) ∧ Ext w (put3 w4 w.heap.size 0 (.mk 0 ((b.drop a).take n) v4 [] (.slice none 0 0)))) := by
   intro v4 w4 ho hv e
   refine val_out (Nat.le_refl _) e ⟨?_, .mk ho ⟨by simp [VT.its], .inl ⟨rfl, rfl⟩⟩ (fun x hx => by simp [VT.its] at hx), ?_⟩ ?_
   ·show DVal.mk 0 _ (valsOf []) = _; rfl
   ·rw [VT.vals_eq]; simp [Far, VT.vb, VT.vi, VT.its, Value.ownBlock]
   ·intro u hu g hg
    rw [VT.vals_eq] at hu
    simp [VT.vb, VT.vi, VT.its] at hu
    rcases hu with rfl | rfl
    ·rcases hv with hv | hv <;> rw [hv] at hg <;> injection hg with hg
     ·omega
     ·rw [World.size_alloc] at hg; omega
    ·cases hg
  have key : ∀ (A' : Option Addr) (c' : Nat), (0 < ((b.drop a).take n).length → ∃ ad, A' = some ad ∧ ∀ j u, (((b.drop a).take n).map vu8)[j]? = some u → (W0.alloc (.cells #[] 5)).cell? (ad.add j) = some u) → True := fun _ _ _ => trivial
  have HS : Hid (0 < n → ∃ b' off, Ab = some ⟨b', off, none⟩ ∧ (0 < ((b.drop a).take n).length → ∃ ad, some (⟨b', off + a, none⟩ : Addr) = some ad ∧ ∀ j u, (((b.drop a).take n).map vu8)[j]? = some u → (W0.alloc (.cells #[] 5)).cell? (ad.add j) = some u)) := fun h => by
   obtain ⟨b', off, hAb, _, _⟩ := hb.1.2.2 (by omega)
   refine ⟨b', off, hAb, ?_⟩
   subst hAb
   exact Rd.src (rd_sub hb (i := a) (n := n) (by omega) (by omega)) x2
  generalize (b.drop a).take n = q at *
  clear key
  have HNE : Hid ((Value.slice (some ⟨w.heap.size + 1, 0, none⟩) 0 0).ownBlock ≠ some w.heap.size) := fun hh => by injection hh with hh; simp at hh
  have HL3 : Hid (([] ++ q : List UInt8).length ≤ 140737488351232) := by show _ ≤ _; rw [List.nil_append, HL.out]; omega
  rcases Nat.eq_zero_or_pos n with hn0 | hn0
  ·subst hn0
   have HLQ : Hid (0 = q.length) := HL.out.symm
   have HSRC : ∀ {A' : Option Addr} {W : World}, 0 < q.length → ∃ ad, A' = some ad ∧ ∀ j u, (q.map vu8)[j]? = some u → W.cell? (ad.add j) = some u := fun h => by have := HL.out; omega
   clear HS HL
   rcases Ab with _ | ad
   ·go_enter Tryz.func71, Tryz.ntmps71
    go_wp2_with (first
     | (at_builtin; rw [← HW0.out]; refine wpList_appL rfl (.tmp 17) (.tmp 23) _ rfl E_u8 (by omega) w _ vu8 (fun _ => rfl) (.slice (some ⟨w.heap.size + 1, 0, none⟩) 0 0) rfl _ _ _ rfl [] q HE.out x2 HLQ.out HSRC HB.out ?_; intro v4 w4 ho4 he4 hv4 hg4; obtain ⟨A4, c4, hvv, _⟩ := OwnL.rd ho4 HL3.out; rw [List.nil_append] at hvv ho4; rw [← HLQ.out] at hvv; subst hvv; have HB4 := BR2.out.moved hg4 HNE.out; have z0 : _ = some (Value.int .i64 0) := HB4.cell 0; have z1 : _ = some (Value.slice none 0 0) := HB4.cell 1; have z2 : _ = some (Value.slice none 0 0) := HB4.cell 2; have y0 := HB4.free 0; have y1 := HB4.free 1; have y2 := HB4.free 2; have HG := HF.out _ _ ho4 hv4 he4))
    exact bodyPost_ret (v := .tuple #[.agg #[.int .i64 0, .slice A4 0 c4, .slice none 0 0], .int .i64 ((a : Int)), .int .i64 0]) (by simp [results, Tryz.results71, go_sem, z0, z1, z2, y0, y1, y2]) rfl ⟨_, by first | rfl | simp [rrVal, vval, DVal.num, VT.vb, VT.vi], HG.1, HG.2⟩
   ·by_cases hca : cb = a
    ·go_enter Tryz.func71, Tryz.ntmps71
     go_wp2_with (first
      | (at_builtin; rw [← HW0.out]; refine wpList_appL rfl (.tmp 17) (.tmp 23) _ rfl E_u8 (by omega) w _ vu8 (fun _ => rfl) (.slice (some ⟨w.heap.size + 1, 0, none⟩) 0 0) rfl _ _ _ rfl [] q HE.out x2 HLQ.out HSRC HB.out ?_; intro v4 w4 ho4 he4 hv4 hg4; obtain ⟨A4, c4, hvv, _⟩ := OwnL.rd ho4 HL3.out; rw [List.nil_append] at hvv ho4; rw [← HLQ.out] at hvv; subst hvv; have HB4 := BR2.out.moved hg4 HNE.out; have z0 : _ = some (Value.int .i64 0) := HB4.cell 0; have z1 : _ = some (Value.slice none 0 0) := HB4.cell 1; have z2 : _ = some (Value.slice none 0 0) := HB4.cell 2; have y0 := HB4.free 0; have y1 := HB4.free 1; have y2 := HB4.free 2; have HG := HF.out _ _ ho4 hv4 he4))
     exact bodyPost_ret (v := .tuple #[.agg #[.int .i64 0, .slice A4 0 c4, .slice none 0 0], .int .i64 ((a : Int)), .int .i64 0]) (by simp [results, Tryz.results71, go_sem, z0, z1, z2, y0, y1, y2]) rfl ⟨_, by first | rfl | simp [rrVal, vval, DVal.num, VT.vb, VT.vi], HG.1, HG.2⟩
    ·go_enter Tryz.func71, Tryz.ntmps71
     go_wp2_with (first
      | (at_builtin; rw [← HW0.out]; refine wpList_appL rfl (.tmp 17) (.tmp 23) _ rfl E_u8 (by omega) w _ vu8 (fun _ => rfl) (.slice (some ⟨w.heap.size + 1, 0, none⟩) 0 0) rfl _ _ _ rfl [] q HE.out x2 HLQ.out HSRC HB.out ?_; intro v4 w4 ho4 he4 hv4 hg4; obtain ⟨A4, c4, hvv, _⟩ := OwnL.rd ho4 HL3.out; rw [List.nil_append] at hvv ho4; rw [← HLQ.out] at hvv; subst hvv; have HB4 := BR2.out.moved hg4 HNE.out; have z0 : _ = some (Value.int .i64 0) := HB4.cell 0; have z1 : _ = some (Value.slice none 0 0) := HB4.cell 1; have z2 : _ = some (Value.slice none 0 0) := HB4.cell 2; have y0 := HB4.free 0; have y1 := HB4.free 1; have y2 := HB4.free 2; have HG := HF.out _ _ ho4 hv4 he4))
     exact bodyPost_ret (v := .tuple #[.agg #[.int .i64 0, .slice A4 0 c4, .slice none 0 0], .int .i64 ((a : Int)), .int .i64 0]) (by simp [results, Tryz.results71, go_sem, z0, z1, z2, y0, y1, y2]) rfl ⟨_, by first | rfl | simp [rrVal, vval, DVal.num, VT.vb, VT.vi], HG.1, HG.2⟩
  ·obtain ⟨b', off, hAb, hsrc⟩ := HS.out hn0
   subst hAb
   have HLQ : Hid (n = q.length) := HL.out.symm
   have HSRC := hsrc
   have hca : ¬ cb = a := by omega
   clear HS HL hsrc
   ·go_enter Tryz.func71, Tryz.ntmps71
    go_wp2_with (first
     | (at_builtin; rw [← HW0.out]; refine wpList_appL rfl (.tmp 17) (.tmp 23) _ rfl E_u8 (by omega) w _ vu8 (fun _ => rfl) (.slice (some ⟨w.heap.size + 1, 0, none⟩) 0 0) rfl _ _ _ rfl [] q HE.out x2 (by have := HLQ.out; omega) HSRC HB.out ?_; intro v4 w4 ho4 he4 hv4 hg4; obtain ⟨A4, c4, hvv, _⟩ := OwnL.rd ho4 HL3.out; rw [List.nil_append] at hvv ho4; rw [← HLQ.out] at hvv; subst hvv; have HB4 := BR2.out.moved hg4 HNE.out; have z0 : _ = some (Value.int .i64 0) := HB4.cell 0; have z1 : _ = some (Value.slice none 0 0) := HB4.cell 1; have z2 : _ = some (Value.slice none 0 0) := HB4.cell 2; have y0 := HB4.free 0; have y1 := HB4.free 1; have y2 := HB4.free 2; have HG := HF.out _ _ ho4 hv4 he4))
    exact bodyPost_ret (v := .tuple #[.agg #[.int .i64 0, .slice A4 n c4, .slice none 0 0], .int .i64 ((a : Int) + (n : Int)), .int .i64 0]) (by simp [results, Tryz.results71, go_sem, z0, z1, z2, y0, y1, y2]) rfl ⟨_, by first | rfl | simp [rrVal, vval, DVal.num, VT.vb, VT.vi], HG.1, HG.2⟩
theorem u8_eq (x y : UInt8) : ((x.toNat : Int) == (y.toNat : Int)) = decide (x = y) := by
 by_cases h : x = y
 ·subst h; simp
 ·rw [decide_eq_false h]
  have : x.toNat ≠ y.toNat := fun e => h (UInt8.toNat_inj.1 e)
  simp; omega
theorem u8_ne (x y : UInt8) : ((x.toNat : Int) != (y.toNat : Int)) = decide (x ≠ y) := by
 rw [bne, u8_eq]; simp
def zeroV : Value := .agg #[.int .i64 0, .slice none 0 0, .slice none 0 0]
def badRes (next code : Nat) : Value := .tuple #[zeroV, .int .i64 (next : Int), .int .i64 (code : Int)]
theorem RdOut.bad {w w' : World} {next code : Nat} (e : Ext w w') : RdOut (.bad next code) w (.returned (badRes next code)) w' := ⟨t0, rfl, GotV.zero _ _, e⟩
theorem constF_v (b : List UInt8) (a : Nat) : ∀ (c : List UInt8) (i : Nat), constF b a c i = ⟨v0, (constF b a c i).next, (constF b a c i).code⟩
 | [], i => by rw [constF]
 | c :: t, i => by
  rw [constF]
  split
  ·rfl
  ·split
   ·exact constF_v b a t (i + 1)
   ·rfl
theorem sConst_c (r : DRule) (Rb : Option Addr) (rb : Nat) (Rn : Option Addr) (rn : Nat) (Rt : Option Addr) (rt : Nat) (Rk : Option Addr) (rk : Nat) (Ab : Option Addr) (b : List UInt8) (cb a : Nat) (ha : a ≤ b.length) (w : World) (hS : RdS w r Rb rb Rn rn Rt rt Rk rk) (hb : Bs w Ab b cb) :
 Gives Tryz.prog 70 #[vrule r (.slice Rb r.bytes.length rb) (.slice Rn r.names.length rn) (.slice Rt r.tags.length rt) (.slice Rk r.kids.length rk), .slice Ab b.length cb, .int .i64 (a : Int)] w (badRes (constF b a r.bytes 0).next (constF b a r.bytes 0).code) := by
 have hbl := hb.len
 have hrl := hS.b.len
 obtain ⟨W0, HW0, B1, B2, e0, hsA⟩ := boxes2' w #[.string r.nm, .int .i64 r.kind, .int .i64 r.size, .bool r.little, .slice Rb r.bytes.length rb, .slice Rn r.names.length rn, .slice Rt r.tags.length rt, .slice Rk r.kids.length rk] #[.int .i64 0, .slice none 0 0, .slice none 0 0] 51 29
 have k4 : ∀ w', Ext W0 w' → _ = some (Value.slice Rb r.bytes.length rb) := fun w' e => B1.at 4 w' e
 have HB2 := Lib.hid B2; have HSZ := Lib.hid hsA
 have HSB := Lib.hid hS.b
 clear B1 B2 hS hsA
 unfold vrule
 obtain ⟨R, hR⟩ : ∃ R, constF b a r.bytes 0 = R := ⟨_, rfl⟩
 rw [hR]
 have HR0 : Hid (constF b a (r.bytes.drop 0) 0 = R) := by rw [List.drop_zero]; exact hR
 clear hR
 generalize r.bytes = bs at *
 go_enter Tryz.func70, Tryz.ntmps70
 go_wp2
 rw [← HW0.out]
 go_loopw [9] (fun ix wr => ∃ k : Nat, k ≤ bs.length ∧ a + k ≤ b.length ∧ ix = .int .i64 k ∧ Hid (constF b a (bs.drop k) k = R) ∧ Ext W0 wr) (fun ix _ => bs.length - (intOf ix).toNat)
 case atStart => exact ⟨0, by omega, by omega, rfl, HR0, Ext.refl _⟩
 case round =>
  clear HR0
  obtain ⟨k, hk, hak, rfl, hst, he⟩ := hrel
  have hbx := HB2.out.ext he
  have r2 := hbx.cell; have f2 := hbx.free
  have hE := e0.trans he
  have hput : Hid (Ext w (put3 wr (w.heap.size + 1) 0 t0)) := hE.grown (grown_put3 wr (w.heap.size + 1) 0 t0) (fun g hg => by injection hg with hg; omega)
  by_cases hlt : k < bs.length
  ·have hstep : constF b a (bs.drop k) k = match b[a + k]? with
    | none => RR.bad a 1
    | some x => if x = bs[k] then constF b a (bs.drop (k + 1)) (k + 1) else RR.bad (a + k) 2 := by
    rw [List.drop_eq_getElem_cons hlt, constF]; rfl
   by_cases hge : b.length ≤ a + k
   ·rw [List.getElem?_eq_none hge] at hstep
    have hRR : R = RR.bad a 1 := by rw [← hst.out, hstep]
    subst hRR
    clear hst hstep
    go_wp2
    exact bodyPost_ret (v := badRes a 1) (by simp [results, Tryz.results70, go_sem, r2, f2, badRes, zeroV]) rfl ⟨rfl, hput.out⟩
   ·rw [List.getElem?_eq_getElem (show a + k < b.length by omega)] at hstep
    dsimp only at hstep
    obtain ⟨b1, o1, rfl, hb1, hc1⟩ := hb.at (a + k) (by omega)
    obtain ⟨b2, o2, hRb, hb2, hc2⟩ := HSB.out.at k hlt
    subst hRb
    have q1 := fun w' (e : Ext wr w') => hc1 w' (hE.trans e)
    have q2 := fun w' (e : Ext wr w') => hc2 w' (hE.trans e)
    have hne := u8_ne b[a + k] bs[k]
    have HST := Lib.hid hstep
    have hlt1 : (a : Int) + (k : Int) < (b.length : Int) := by omega
    generalize b[a + k] = x at *
    generalize bs[k] = y at *
    simp only [vu8] at q1 q2
    clear hc1 hc2 hstep
    by_cases hxy : x = y
    ·rw [if_pos hxy] at HST
     have HN : Hid (constF b a (bs.drop (k + 1)) (k + 1) = R) := by show _ = _; rw [← HST.out, hst.out]
     subst hxy
     have hne' : ((x.toNat : Int) != (x.toNat : Int)) = false := by simp
     clear hne hst HST
     go_wp2_with fail
     refine wp_region_quiet_below (by kernel_rfl) (by kernel_rfl) ?_
     repeat (go_big_quiet_step (fail))
     refine wpQuiet_nil ?_
     rintro w1 ⟨⟨nq, osq⟩, hq⟩
     have ew1 := ext_of_q hq
     clear hq nq osq
     go_wp2
     go_roundw
     case rel => exact ⟨k + 1, by omega, by omega, by go_num, HN, he.trans ew1⟩
     case measure => simp [intOf]; omega
    ·rw [if_neg hxy] at HST
     have hRR : R = RR.bad (a + k) 2 := by rw [← HST.out, hst.out]
     subst hRR
     rw [decide_eq_true hxy] at hne
     clear hst HST
     go_wp2_with fail
     refine wp_region_quiet_below (by kernel_rfl) (by kernel_rfl) ?_
     repeat (go_big_quiet_step (fail))
     refine wpQuiet_nil ?_
     rintro w1 ⟨⟨nq, osq⟩, hq⟩
     have ew1 := ext_of_q hq
     clear hq nq osq
     have hbx1 := hbx.ext ew1
     have r3 := hbx1.cell; have f3 := hbx1.free
     have hput1 : Hid (Ext w (put3 w1 (w.heap.size + 1) 0 t0)) := (hE.trans ew1).grown (grown_put3 w1 (w.heap.size + 1) 0 t0) (fun g hg => by injection hg with hg; omega)
     go_wp2
     exact bodyPost_ret (v := .tuple #[zeroV, .int .i64 ((a : Int) + (k : Int)), .int .i64 2]) (by simp [results, Tryz.results70, go_sem, r3, f3, zeroV]) rfl ⟨by simp [badRes, RR.bad], hput1.out⟩
  ·obtain rfl : k = bs.length := by omega
   have hRR : R = ⟨v0, a + bs.length, 0⟩ := by rw [← hst.out, List.drop_length, constF]
   subst hRR
   clear hst
   have SZ : Hid (∀ w', Ext wr w' → Box w' (w.heap.size + 1) #[.int .i64 0, .slice none 0 0, .slice none 0 0] 29 ∧ Ext w (put3 w' (w.heap.size + 1) 0 t0)) := fun w' e => ⟨hbx.ext e, (hE.trans e).grown (grown_put3 w' (w.heap.size + 1) 0 t0) (fun g hg => by injection hg with hg; omega)⟩
   go_wp2_with fail
   go_region
   all_goals
    go_wp2_with fail
    refine bodyPost_ret (v := .tuple #[zeroV, .int .i64 ((a : Int) + (bs.length : Int)), .int .i64 0]) (by simp [results, Tryz.results70, go_sem, r2, f2, zeroV]) rfl ⟨by simp [badRes], ?_⟩
    exact Ext_drew hput.out
def untilRes (o : Option (List UInt8 × Nat)) (a : Nat) : List UInt8 × Nat × Bool := match o with
 | some q => (q.1, a + q.2, true)
 | none => ([], a, false)
theorem sUntil_c (Ab : Option Addr) (b : List UInt8) (cb a : Nat) (t : UInt8) (ha : a ≤ b.length) (w : World) (hb : Bs w Ab b cb) :
 Calls Tryz.prog 72 #[.slice Ab b.length cb, .int .i64 (a : Int), .int .u8 (t.toNat : Int)] w fun e w' => ∃ v, e = .returned (.tuple #[v, .int .i64 ((untilRes (untilL t (b.drop a)) a).2.1 : Int), .bool (untilRes (untilL t (b.drop a)) a).2.2]) ∧ OwnL vu8 5 w w' v (untilRes (untilL t (b.drop a)) a).1 ∧ Ext w w' := by
 have hbl := hb.len
 have CI := Lib.hid (fun (x lo hi : Int) w' => l1In_c x lo hi w')
 obtain ⟨O, hO⟩ : ∃ O, untilRes (untilL t (b.drop a)) a = O := ⟨_, rfl⟩
 rw [hO]
 have HE := OwnL.empty (f := vu8) (e := 5) (Ext.refl w)
 have HE := Lib.hid HE
 have x0 := Ext_alloc (.cells #[] 5) (Ext.refl w)
 have H0 : Hid (untilRes ((untilL t (b.drop a)).map fun q => ([] ++ q.1, q.2 + (a - a))) a = O) := by
  show _ = _
  rw [← hO]; congr 1
  cases untilL t (b.drop a) with
  | none => rfl
  | some q => simp
 clear hO
 have hin : (decide ((0 : Int) ≤ (a : Int)) && decide ((a : Int) ≤ (b.length : Int))) = true := by simp; omega
 go_enter Tryz.func72, Tryz.ntmps72
 go_wp2
 go_loopw [9, 10] (fun o' ix wr => ∃ (o : Value) (k : Nat) (l : List UInt8), o = o' ∧ a ≤ k ∧ k ≤ b.length ∧ l.length ≤ k ∧ ix = .int .i64 k ∧ Hid (OwnL vu8 5 w wr o l) ∧ Hid (untilRes ((untilL t (b.drop k)).map fun q => (l ++ q.1, q.2 + (k - a))) a = O) ∧ Ext w wr) (fun _ ix _ => b.length - (intOf ix).toNat)
 case atStart => exact ⟨_, a, [], rfl, by omega, ha, by simp, rfl, HE, H0, x0⟩
 case round =>
  clear HE H0 x0
  obtain ⟨o, k, l, rfl, hka, hk, hll, rfl, ho, hst, he⟩ := hrel
  by_cases hlt : k < b.length
  ·obtain ⟨b1, o1, rfl, hb1, hc1⟩ := hb.at k hlt
   have q1 := fun w' (e : Ext wr w') => hc1 w' (he.trans e)
   have hdk : b.drop k = b[k] :: b.drop (k + 1) := List.drop_eq_getElem_cons hlt
   have hxt := u8_eq b[k] t
   have hx9 := u8_eq b[k] 92
   rw [show ((92 : UInt8).toNat : Int) = 92 from rfl] at hx9
   have h8 := b[k].toNat_lt
   simp only [vu8] at q1
   by_cases hx : b[k] = t
   ·have hO : O = (l, k + 1, true) := by
     rw [← hst.out, hdk, hx, untilL_hit]
     simp [untilRes]; omega
    subst hO
    rw [hx] at q1 h8
    have hxx : ((t.toNat : Int) == (t.toNat : Int)) = true := by simp
    clear hst hxt hx9 hdk hc1 hx hb
    go_wp2_with fail
    refine (CI.out _ _ _ _).mono ?_; rintro _ w1 ⟨rfl, he1⟩
    rw [hin]
    have ho1 := Lib.hid (OwnL.ext ho.out he1)
    have e1 := he.trans he1
    go_wp2
    exact bodyPost_ret (v := .tuple #[o, .int .i64 ((k : Int) + 1), .bool true]) (by simp [results, Tryz.results72, go_sem]) rfl ⟨_, by simp, ho1.out, e1⟩
   ·rw [decide_eq_false hx] at hxt
    by_cases hx2 : b[k] = 92
    ·have ht9 : t ≠ 92 := fun e => hx (by rw [hx2, e])
     rw [decide_eq_true hx2] at hx9
     by_cases hk1 : k + 1 = b.length
     ·have hO : O = ([], a, false) := by
       rw [← hst.out, hdk, hx2, List.drop_eq_nil_of_le (by omega), untilL_end t ht9]; rfl
      subst hO
      have hkk : ((k : Int) + 1 == (b.length : Int)) = true := by simp; omega
      generalize b[k] = x at *
      clear hst hdk hc1 hx hx2 hb hk1
      go_wp2_with fail
      refine (CI.out _ _ _ _).mono ?_; rintro _ w1 ⟨rfl, he1⟩
      rw [hin]
      have e1 := he.trans he1
      go_wp2
      exact bodyPost_ret (v := .tuple #[.slice (some ⟨w1.heap.size, 0, none⟩) 0 0, .int .i64 (a : Int), .bool false]) (by simp [results, Tryz.results72, go_sem]) rfl ⟨_, rfl, OwnL.empty e1, Ext_alloc _ e1⟩
     ·obtain ⟨b2, o2, hA2, hb2, hc2⟩ := hb.at (k + 1) (by omega)
      injection hA2 with hA2; injection hA2 with z1 z2 _; subst z1; subst z2
      have q2 := fun w' (e : Ext wr w') => hc2 w' (he.trans e)
      simp only [vu8] at q2
      have hdk2 : b.drop (k + 1) = b[k + 1] :: b.drop (k + 2) := List.drop_eq_getElem_cons (by omega)
      have HN : Hid (untilRes ((untilL t (b.drop (k + 2))).map fun q => ((l ++ [b[k + 1]]) ++ q.1, q.2 + (k + 2 - a))) a = O) := by
       show _ = _
       rw [← hst.out, hdk, hx2, hdk2, untilL_two t ht9, Option.map_map]
       congr 1
       cases untilL t (b.drop (k + 2)) with
       | none => rfl
       | some q => simp; omega
      have hkk : ((k : Int) + 1 == (b.length : Int)) = false := by simp; omega
      have hY : Hid (#[Value.int .u8 (b[k + 1].toNat : Int)] = ([b[k + 1]].map vu8).toArray) := rfl
      have HB : Hid ((l.length + [b[k + 1]].length) * 1 ≤ 140737488355328) := by show _ ≤ _; simp; omega
      have hlt2 : (k : Int) + 1 < (b.length : Int) := by omega
      generalize b[k] = x at *
      generalize b[k + 1] = y at *
      clear hst hdk hdk2 hc1 hc2 hx hx2 hb hk1
      go_wp2_with fail
      refine (CI.out _ _ _ _).mono ?_; rintro _ w1 ⟨rfl, he1⟩
      rw [hin]
      have ho1 := Lib.hid (OwnL.ext ho.out he1)
      have e1 := he.trans he1
      go_wp2_with (first
       | (at_builtin; refine wpList_appN rfl (.tmp 45) (.tmp 50) _ rfl E_u8 (by omega) w _ vu8 (fun _ => rfl) _ rfl _ _ rfl l [y] _ hY.out ho1.out e1 rfl HB.out ?_; intro v4 w4 ho4 he4))
      have HO4 := Lib.hid ho4
      clear ho4
      go_wp2
      go_roundw
      case rel => exact ⟨_, k + 2, l ++ [y], rfl, by omega, by omega, by simp; omega, by go_num, HO4, HN, he4⟩
      case measure => simp [intOf]; omega
    ·rw [decide_eq_false hx2] at hx9
     have HN : Hid (untilRes ((untilL t (b.drop (k + 1))).map fun q => ((l ++ [b[k]]) ++ q.1, q.2 + (k + 1 - a))) a = O) := by
      show _ = _
      rw [← hst.out, hdk, untilL_one t _ hx hx2, Option.map_map]
      congr 1
      cases untilL t (b.drop (k + 1)) with
      | none => rfl
      | some q => simp; omega
     have hY : Hid (#[Value.int .u8 (b[k].toNat : Int)] = ([b[k]].map vu8).toArray) := rfl
     have HB : Hid ((l.length + [b[k]].length) * 1 ≤ 140737488355328) := by show _ ≤ _; simp; omega
     generalize b[k] = x at *
     clear hst hdk hc1 hx hx2 hb
     go_wp2_with fail
     refine (CI.out _ _ _ _).mono ?_; rintro _ w1 ⟨rfl, he1⟩
     rw [hin]
     have ho1 := Lib.hid (OwnL.ext ho.out he1)
     have e1 := he.trans he1
     replace q1 := fun w' (e : Ext w1 w') => q1 w' (he1.trans e)
     go_wp2_with (first
      | (at_builtin; refine wpList_appN rfl (.tmp 45) (.tmp 50) _ rfl E_u8 (by omega) w _ vu8 (fun _ => rfl) _ rfl _ _ rfl l [x] _ hY.out ho1.out e1 rfl HB.out ?_; intro v4 w4 ho4 he4))
     have HO4 := Lib.hid ho4
     clear ho4
     go_wp2
     go_roundw
     case rel => exact ⟨_, k + 1, l ++ [x], rfl, by omega, by omega, by simp; omega, by go_num, HO4, HN, he4⟩
     case measure => simp [intOf]; omega
  ·obtain rfl : k = b.length := by omega
   have hO : O = ([], a, false) := by
    rw [← hst.out, List.drop_length, untilL]; rfl
   subst hO
   clear hst
   go_wp2_with fail
   refine (CI.out _ _ _ _).mono ?_; rintro _ w1 ⟨rfl, he1⟩
   rw [hin]
   have e1 := he.trans he1
   go_wp2
   exact bodyPost_ret (v := .tuple #[.slice (some ⟨w1.heap.size, 0, none⟩) 0 0, .int .i64 (a : Int), .bool false]) (by simp [results, Tryz.results72, go_sem]) rfl ⟨_, rfl, OwnL.empty e1, Ext_alloc _ e1⟩
section
variable {P : Program} {ops : Array Oper} {rest : List Oper} {o : Oper} {a : Act} {Q : Exit → Act → World → Prop}
theorem wpList_app8 (hgd : o.guard = none) (s x : Operand) (t : TypeId) (ho : o.op = .call { callee := .builtin .append, args := #[s, x], argTypes := #[t, t] })
 {e : TypeId} {size bytes : Nat} {z : Value} (hE : Elem P t e size bytes z) (w0 w : World) (v : Value) (n : Nat) (xs : List Value) (hs : a.eval s = v) (hown : Own e size w0 w v n xs) (he : w0.heap.size ≤ w.heap.size)
 (ad : Addr) (m c : Nat) (news : List Value) (hx : a.eval x = .slice (some ad) m c) (hl : news.length = m * size) (hA : ∀ j u, news[j]? = some u → w.cell? (ad.add j) = some u) (h1 : ∀ u ∈ news, u.oneCell' = true)
 (hm : n + m ≤ maxLen) (hb : (n + m) * bytes ≤ 140737488355328)
 (h : ∀ v' w', Own e size w0 w' v' (n + m) (xs ++ news) → w.grownBy w' v.ownBlock → (v'.ownBlock = v.ownBlock ∨ v'.ownBlock = some w.heap.size) → wpList P ops Q rest (a.put o.dst v') w') :
 wpList P ops Q (o :: rest) a w := by
 obtain ⟨i0, hi0, hz0, hz1, hz2⟩ := info_parts hE.hi
 exact wpList_append_own_at _ hgd s x t ho w0.heap.size e i0 z size bytes hE.ht hi0 hz0 hz1 hz2 hE.hz hE.hs v n xs hs hown ad m c news hx hl hA h1 hm hb he (fun v' w' ho' hg _ hat => h v' w' ho' hg hat)
end
theorem boxes4' (w : World) (c0 c1 c2 c3 : Array Value) (T0 T1 T2 T3 : TypeId) :
 ∃ W0 W1, Hid (W0 = (((w.alloc (.cells c0 T0)).alloc (.cells c1 T1)).alloc (.cells c2 T2))) ∧ Hid (W1 = W0.alloc (.cells c3 T3)) ∧ Box W0 w.heap.size c0 T0 ∧ Box W0 (w.heap.size + 1) c1 T1 ∧ Box W0 (w.heap.size + 1 + 1) c2 T2 ∧ Box W1 (w.heap.size + 1 + 1 + 1) c3 T3 ∧ Ext w W0 ∧ Ext W0 W1 ∧ W0.heap.size = w.heap.size + 1 + 1 + 1 ∧ W1.heap.size = w.heap.size + 1 + 1 + 1 + 1 := by
 obtain ⟨W0, h1, h2, h3, h4, h5, h6⟩ := boxes3' w c0 c1 c2 T0 T1 T2
 have h6' : W0.heap.size = w.heap.size + 1 + 1 + 1 := by omega
 have h7 := Box.new W0 c3 T3
 rw [h6'] at h7
 exact ⟨W0, _, h1, rfl, h2, h3, h4, h7, h5, Ext_alloc _ (Ext.refl W0), h6', by rw [World.size_alloc, h6']⟩
theorem RdOut.shape {R : RR} {w w' : World} {e : Ending} (h : RdOut R w e w') : ∃ (t : VT) (A1 : Option Addr) (n1 c1 : Nat) (A2 : Option Addr) (n2 c2 : Nat), e = .returned (.tuple #[.agg #[.int .i64 R.v.num, .slice A1 n1 c1, .slice A2 n2 c2], .int .i64 (R.next : Int), .int .i64 (R.code : Int)]) ∧ Hid (t.vb = .slice A1 n1 c1 ∧ t.vi = .slice A2 n2 c2) ∧ Hid (GotV w w' t R.v) ∧ Ext w w' := by
 obtain ⟨t, he, hg, hx⟩ := h
 obtain ⟨A1, c1, h1⟩ := Own.shape (show Own _ 1 w w' t.vb t.bs.length _ from hg.own.b)
 obtain ⟨A2, c2, h2⟩ := Own.shape hg.own.i
 refine ⟨t, A1, _, c1, A2, _, c2, ?_, ⟨h1, h2⟩, hg, hx⟩
 rw [he]; unfold rrVal vval; rw [h1, h2]
theorem box_laid {w : World} {g : Nat} {T : TypeId} {a b c : Value} (h : Box w g #[a, b, c] T) (x y z : Value) : Box (((w.setCell ⟨g, 0, none⟩ x).setCell ⟨g, 1, none⟩ y).setCell ⟨g, 2, none⟩ z) g #[x, y, z] T := by
 have := ((h.set 0 x).set 1 y).set 2 z
 simpa using this
theorem got_laid {w w5 : World} {g : Nat} {t : VT} {v : DVal} (h : GotV w w5 t v) (hg : g < w.heap.size) (x y z : Value) : GotV w (((w5.setCell ⟨g, 0, none⟩ x).setCell ⟨g, 1, none⟩ y).setCell ⟨g, 2, none⟩ z) t v :=
 ⟨h.val, h.own.keep (((grown_set w5 ⟨g, 0, none⟩ x).trans (grown_set _ ⟨g, 1, none⟩ y)).trans (grown_set _ ⟨g, 2, none⟩ z)) (fun u hu b hb he => by have := (h.own.block u hu b hb).1; injection he with he; simp at he; omega), h.far⟩
def sReadOk (A : Option Addr) (ds : List DRule) (c : Nat) (Ab : Option Addr) (b : List UInt8) (cb : Nat) (i : Nat) : Prop := ∀ (a : Nat) (w : World), a ≤ b.length → RdD w A ds c → Bs w Ab b cb →
 Calls Tryz.prog 52 #[vdesc (.slice A ds.length c), .int .i64 (i : Int), .slice Ab b.length cb, .int .i64 (a : Int)] w (RdOut (readV ds b i a) w)
theorem itemsF_step (rd : Nat → Nat → RR) (r : DRule) (n : Int) {m k : Nat} (h : k < m) (a : Nat) (acc : List DVal) : itemsF rd r n (m - k) k a acc = if (rd (kidV r n k) a).code = 0 then itemsF rd r n (m - (k + 1)) (k + 1) (rd (kidV r n k) a).next (acc ++ [(rd (kidV r n k) a).v]) else .bad (rd (kidV r n k) a).next (rd (kidV r n k) a).code := by
 rw [show m - k = (m - (k + 1)) + 1 by omega, itemsF]
theorem sItems_c (A : Option Addr) (ds : List DRule) (c : Nat) (hok : descOk ds = true) (i : Nat) (hi : i < ds.length) (Rb : Option Addr) (rb : Nat) (Rn : Option Addr) (rn : Nat) (Rt : Option Addr) (rt : Nat) (Rk : Option Addr) (rk : Nat)
 (Ab : Option Addr) (b : List UInt8) (cb : Nat) (n : Int) (m : Nat) (hm : m ≤ 1000000) (HI : ∀ k, k < m → ItemAt ds[i] n k) (HR : ∀ j, j < i → sReadOk A ds c Ab b cb j) (a : Nat) (ha : a ≤ b.length) (w : World) (hd : RdD w A ds c) (hb : Bs w Ab b cb) (hS : RdS w ds[i] Rb rb Rn rn Rt rt Rk rk) :
 Calls Tryz.prog 73 #[vdesc (.slice A ds.length c), vrule ds[i] (.slice Rb ds[i].bytes.length rb) (.slice Rn ds[i].names.length rn) (.slice Rt ds[i].tags.length rt) (.slice Rk ds[i].kids.length rk), .int .i64 n, .int .i64 (m : Int), .slice Ab b.length cb, .int .i64 (a : Int)] w (RdOut (itemsF (readV ds b) ds[i] n m 0 a []) w) := by
 have hl := hd.len
 have hbl := hb.len
 have H7 : ds[i].kind = 7 → ds[i].kids.length = ds[i].tags.length + 1 := fun h => ((kids_len hok i hi).2.2.2.1 h).1
 have HKN := kd_int hok i hi
 have CI : Hid (∀ k, k < m → ∀ w', Ext w w' → Gives Tryz.prog 58 #[.agg #[.string ds[i].nm, .int .i64 ds[i].kind, .int .i64 ds[i].size, .bool ds[i].little, .slice Rb ds[i].bytes.length rb, .slice Rn ds[i].names.length rn, .slice Rt ds[i].tags.length rt, .slice Rk ds[i].kids.length rk], .int .i64 n, .int .i64 (k : Int)] w' (.int .i64 (kidV ds[i] n k : Nat))) := fun k hk w' e =>
  sItemV_c ds[i] Rb rb Rn rn Rt rt Rk rk n k w' (hS.ext e) (by omega) (HI k hk) H7 HKN
 have CR : Hid (∀ k, k < m → ∀ (a : Nat) (w' : World), a ≤ b.length → Ext w w' → Calls Tryz.prog 52 #[.agg #[.slice A ds.length c], .int .i64 ((kidV ds[i] n k : Nat) : Int), .slice Ab b.length cb, .int .i64 (a : Int)] w' fun e w'' => ∃ (t : VT) (A1 : Option Addr) (n1 c1 : Nat) (A2 : Option Addr) (n2 c2 : Nat), e = .returned (.tuple #[.agg #[.int .i64 (readV ds b (kidV ds[i] n k) a).v.num, .slice A1 n1 c1, .slice A2 n2 c2], .int .i64 ((readV ds b (kidV ds[i] n k) a).next : Int), .int .i64 ((readV ds b (kidV ds[i] n k) a).code : Int)]) ∧ Hid (t.vb = .slice A1 n1 c1 ∧ t.vi = .slice A2 n2 c2) ∧ Hid (GotV w' w'' t (readV ds b (kidV ds[i] n k) a).v) ∧ Ext w' w'') := fun k hk a w' ha e =>
  (HR _ (kid_below hok i hi (HI k hk)) a w' ha (hd.ext e) (hb.ext e)).mono fun e' w'' h => RdOut.shape h
 have HNX : Hid (∀ k a, a ≤ b.length → (readV ds b k a).next ≤ b.length) := fun k a ha => readV_next ha
 obtain ⟨R, hR⟩ : ∃ R, itemsF (readV ds b) ds[i] n m 0 a [] = R := ⟨_, rfl⟩
 rw [hR]
 have HR0 : Hid (itemsF (readV ds b) ds[i] n (m - 0) 0 a (valsOf []) = R) := hR
 have HST : Hid (∀ k, k < m → ∀ a acc, itemsF (readV ds b) ds[i] n (m - k) k a acc = if (readV ds b (kidV ds[i] n k) a).code = 0 then itemsF (readV ds b) ds[i] n (m - (k + 1)) (k + 1) (readV ds b (kidV ds[i] n k) a).next (acc ++ [(readV ds b (kidV ds[i] n k) a).v]) else .bad (readV ds b (kidV ds[i] n k) a).next (readV ds b (kidV ds[i] n k) a).code) := fun k hk a acc => itemsF_step _ _ _ hk a acc
 clear hR HI HR H7 HKN hd hb hS
 obtain ⟨W0, W1, HW0, HW1, B1, B2, B3, B4, e0, x1, hs0, hs1⟩ := boxes4' w #[.slice A ds.length c] #[.string ds[i].nm, .int .i64 ds[i].kind, .int .i64 ds[i].size, .bool ds[i].little, .slice Rb ds[i].bytes.length rb, .slice Rn ds[i].names.length rn, .slice Rt ds[i].tags.length rt, .slice Rk ds[i].kids.length rk] #[.int .i64 0, .slice none 0 0, .slice none 0 0] #[.int .i64 0, .slice none 0 0, .slice none 0 0] 26 51 29 29
 have d0 : ∀ w', Ext W0 w' → _ = some (Value.slice A ds.length c) := fun w' e => B1.at 0 w' e
 have k0 : ∀ w', Ext W0 w' → _ = some (Value.string ds[i].nm) := fun w' e => B2.at 0 w' e
 have k1 : ∀ w', Ext W0 w' → _ = some (Value.int .i64 ds[i].kind) := fun w' e => B2.at 1 w' e
 have k2 : ∀ w', Ext W0 w' → _ = some (Value.int .i64 ds[i].size) := fun w' e => B2.at 2 w' e
 have k3 : ∀ w', Ext W0 w' → _ = some (Value.bool ds[i].little) := fun w' e => B2.at 3 w' e
 have k4 : ∀ w', Ext W0 w' → _ = some (Value.slice Rb ds[i].bytes.length rb) := fun w' e => B2.at 4 w' e
 have k5 : ∀ w', Ext W0 w' → _ = some (Value.slice Rn ds[i].names.length rn) := fun w' e => B2.at 5 w' e
 have k6 : ∀ w', Ext W0 w' → _ = some (Value.slice Rt ds[i].tags.length rt) := fun w' e => B2.at 6 w' e
 have k7 : ∀ w', Ext W0 w' → _ = some (Value.slice Rk ds[i].kids.length rk) := fun w' e => B2.at 7 w' e
 have HB3 := Lib.hid B3; have HB4 := Lib.hid B4; have HS0 := Lib.hid hs0; have HS1 := Lib.hid hs1
 clear B1 B2 B3 B4 hs0 hs1
 generalize (fun k => kidV ds[i] n k) = KV at *
 unfold vdesc vrule
 generalize ds[i] = r at *
 have OD0 : Hid (OwnTs W1 W1 (.slice none 0 0) []) := OwnTs.nil W1 W1
 go_enter Tryz.func73, Tryz.ntmps73
 go_wp2
 rw [← HW0.out, ← HW1.out]
 go_loopw [5, 16] (fun at' ix wr => ∃ (k a' : Nat) (ps : List VT) (v : Value), k ≤ m ∧ a' ≤ b.length ∧ at' = .int .i64 a' ∧ ix = .int .i64 k ∧ ps.length ≤ k ∧ k ≤ ps.length ∧ Hid (itemsF (readV ds b) r n (m - k) k a' (valsOf ps) = R) ∧ Hid (OwnTs W1 wr v ps) ∧ Hid (Box wr (w.heap.size + 1 + 1 + 1) #[.int .i64 0, .slice none 0 0, v] 29) ∧ Ext W0 wr ∧ Hid (W1.heap.size ≤ wr.heap.size)) (fun _ ix _ => m - (intOf ix).toNat)
 case atStart => exact ⟨0, a, [], _, by omega, ha, rfl, rfl, by simp, by simp, HR0, OD0, HB4, x1, Nat.le_refl _⟩
 case round =>
  clear HR0 OD0 HB4 x1
  obtain ⟨k, a', ps, v, hk, ha', rfl, rfl, hl1, hl2, hst, hod, hbo, he, hsz⟩ := hrel
  by_cases hlt : k < m
  ·have HX := Lib.hid (HST.out k hlt a' (valsOf ps))
   have CI1 := Lib.hid (CI.out k hlt)
   have CR1 := Lib.hid (CR.out k hlt a')
   have hnx := HNX.out (kidV r n k) a' ha'
   obtain ⟨X, hX⟩ : ∃ X, readV ds b (kidV r n k) a' = X := ⟨_, rfl⟩
   rw [hX] at HX CR1 hnx
   generalize kidV r n k = kk at *
   clear hX
   have SX : Hid (∀ w', Ext wr w' → Ext W0 w' → Ext wr w' ∧ Ext W0 w') := fun _ h1 h2 => ⟨h1, h2⟩
   have SY : Hid (∀ w', Ext wr w' → Ext wr w' ∧ Ext W0 w') := fun _ h1 => ⟨h1, he.trans h1⟩
   have hed := Ext_drew he
   go_wp2_with fail
   go_cut [17, 18, 19] (fun s17 s18 s19 wx => ∃ g t, s17 = .pointer (some ⟨g, 0, none⟩) ∧ s18 = .int .i64 (X.next : Int) ∧ s19 = .int .i64 (X.code : Int) ∧ Hid (∃ vb vi, t.vb = vb ∧ t.vi = vi ∧ Box wx g #[.int .i64 X.v.num, vb, vi] 29) ∧ Hid (GotV wr wx t X.v) ∧ Ext wr wx)
   case first =>
    go_region_held3 (fun w' => Ext wr w' ∧ Ext W0 w') (first | exact SY.out _ (Ext_drew (Ext.refl _)) | exact SY.out _ (by assumption) | exact SY.out _ (Ext_alloc _ (And.left (by assumption))) | exact SY.out _ (Ext_alloc _ (by assumption)) | exact SY.out _ (((Ext.setCell hE5 (by first | exact Nat.le_refl _ | exact hE4.size) _).setCell (by first | exact Nat.le_refl _ | exact hE4.size) _).setCell (by first | exact Nat.le_refl _ | exact hE4.size) _)) (first
     | (go_at_call 58; have hq := ‹Ext wr _ ∧ Ext W0 _›; refine (CI1.out _ (e0.trans hq.2)).mono ?_; rintro _ w4 ⟨rfl, he4⟩; have hE4 := hq.1.trans he4; (try (have hbx : Box w4 wr.heap.size #[.int .i64 0, .slice none 0 0, .slice none 0 0] 29 := Box.ext (Box.new wr.drew #[.int .i64 0, .slice none 0 0, .slice none 0 0] 29) he4)))
     | (go_at_call 52; have hq := ‹Ext wr _ ∧ Ext W0 _›; refine (CR1.out _ ha' (e0.trans hq.2)).mono ?_; rintro _ w5 ⟨t, A1, n1, c1, A2, n2, c2, rfl, hsh, hgt, he5⟩; have hE5 := hq.1.trans he5; (first | (have hbz : Box w5 wr.heap.size #[.int .i64 0, .slice none 0 0, .slice none 0 0] 29 := Box.ext hbx he5; have z0 : w5.cell? ⟨wr.heap.size, 0, none⟩ = some (Value.int .i64 0) := hbz.cell 0; have z1 : w5.cell? ⟨wr.heap.size, 1, none⟩ = some (Value.slice none 0 0) := hbz.cell 1; have z2 : w5.cell? ⟨wr.heap.size, 2, none⟩ = some (Value.slice none 0 0) := hbz.cell 2; have y0 : w5.frozen? ⟨wr.heap.size, 0, none⟩ = false := hbz.free 0; have y1 : w5.frozen? ⟨wr.heap.size, 1, none⟩ = false := hbz.free 1; have y2 : w5.frozen? ⟨wr.heap.size, 2, none⟩ = false := hbz.free 2) | (have hbz : Box w5 w4.heap.size #[.int .i64 0, .slice none 0 0, .slice none 0 0] 29 := Box.ext (Box.new w4 #[.int .i64 0, .slice none 0 0, .slice none 0 0] 29) he5; have z0 : w5.cell? ⟨w4.heap.size, 0, none⟩ = some (Value.int .i64 0) := hbz.cell 0; have z1 : w5.cell? ⟨w4.heap.size, 1, none⟩ = some (Value.slice none 0 0) := hbz.cell 1; have z2 : w5.cell? ⟨w4.heap.size, 2, none⟩ = some (Value.slice none 0 0) := hbz.cell 2; have y0 : w5.frozen? ⟨w4.heap.size, 0, none⟩ = false := hbz.free 0; have y1 : w5.frozen? ⟨w4.heap.size, 1, none⟩ = false := hbz.free 1; have y2 : w5.frozen? ⟨w4.heap.size, 2, none⟩ = false := hbz.free 2) | skip)))
    all_goals
     go_wp2_with fail
     go_meet
    all_goals
     first
      | exact ⟨_, t, rfl, rfl, rfl, ⟨_, _, hsh.out.1, hsh.out.2, Box.new w5 _ _⟩, GotV.down (GotV.ext hgt.out (Ext_alloc _ (Ext.refl _))) hE4.size, Ext_alloc _ hE5⟩
      | exact ⟨_, t, rfl, rfl, rfl, ⟨_, _, hsh.out.1, hsh.out.2, box_laid hbz _ _ _⟩, GotV.down (got_laid hgt.out (by rw [World.size_alloc]; omega) _ _ _) (by rw [World.size_alloc]; have := hE4.size; omega), ((hE5.setCell (by exact hE4.size) _).setCell (by exact hE4.size) _).setCell (by exact hE4.size) _⟩
      | exact ⟨_, t, rfl, rfl, rfl, ⟨_, _, hsh.out.1, hsh.out.2, box_laid hbz _ _ _⟩, GotV.down (got_laid hgt.out (by have h1 := he4.size; simp at h1; omega) _ _ _) hE4.size, ((hE5.setCell (by exact Nat.le_refl _) _).setCell (by exact Nat.le_refl _) _).setCell (by exact Nat.le_refl _) _⟩
   case rest =>
    obtain ⟨g, t, rfl, rfl, rfl, hgb, hgt, hewc⟩ := hcut
    obtain ⟨vb, vi, hvb, hvi, hbg⟩ := hgb.out
    have hEc := he.trans hewc
    have hHc := Lib.hid hEc
    have hb12 := HB3.out.ext hEc
    have hb15 := hbo.out.ext hewc
    have HVB : Hid (t.vb = vb ∧ t.vi = vi) := ⟨hvb, hvi⟩
    clear SX SY hed CI1 CR1 hgb hvb hvi
    by_cases hc : X.code = 0
    ·rw [if_pos hc] at HX
     have hne : ((X.code : Int) != 0) = false := by simp [hc]
     have cv : _ = some v := hb15.cell 2
     have p0 : _ = some (Value.int .i64 X.v.num) := hbg.cell 0
     have p1 : _ = some vb := hbg.cell 1
     have p2 : _ = some vi := hbg.cell 2
     have x5 := Ext_alloc (.cells #[.int .i64 X.v.num, vb, vi] 29) (Ext.refl wc)
     have hone : Hid (∀ u ∈ [Value.int .i64 X.v.num, vb, vi], u.oneCell' = true) := by
      have := hgt.out.own.one; unfold VT.cells at this; rw [hgt.out.num, HVB.out.1, HVB.out.2] at this; exact this
     have HSZ2 : Hid (W1.heap.size ≤ (wc.alloc (.cells #[.int .i64 X.v.num, vb, vi] 29)).heap.size) := by
      have h1 := hewc.size; have h2 := hsz.out; show _ ≤ _; rw [World.size_alloc]; omega
     have bV : Hid (∀ b, v.ownBlock = some b → W1.heap.size ≤ b ∧ b < wr.heap.size) := fun b hb => hod.out.block v (List.mem_cons_self ..) b hb
     have HS0' := HS0.out; have HS1' := HS1.out
     have hNv : Hid (v.ownBlock ≠ some (w.heap.size + 1 + 1 + 1)) := fun hh => by have := (bV.out _ hh).1; omega
     have hN12 : Hid (v.ownBlock ≠ some (w.heap.size + 1 + 1)) := fun hh => by have := (bV.out _ hh).1; omega
     have HB15 := Lib.hid (hb15.ext x5)
     have HOR := Lib.hid (Own.ext (Own.ext hod.out.row hewc) x5)
     have HX5 := Lib.hid x5
     clear hbg hb12 hb15 x5 hc HS0' HS1' hEc
     go_wp2_with (first
      | (at_builtin; refine wpList_app8 rfl (.tmp 44) (.tmp 46) _ rfl E_val W1 (wc.alloc (.cells #[.int .i64 X.v.num, vb, vi] 29)) v ps.length (ps.flatMap VT.cells) rfl HOR.out HSZ2.out ⟨wc.heap.size, 0, none⟩ 1 1 [.int .i64 X.v.num, vb, vi] rfl rfl (fun j u hu => (World.cell?_alloc_at' wc [.int .i64 X.v.num, vb, vi] 29 j).trans hu) hone.out (by simp [maxLen]; omega) (by omega) ?_; intro v4 w4 ho4 hg4 hv4; have hbo4 := Lib.hid (Box.moved HB15.out hg4 hNv.out); have c4' := hbo4.out.cell 2; have f4 := hbo4.out.free 2; have HO4 : Hid (OwnTs W1 w4 v4 (ps ++ [t])) := OwnTs.snoc hod.out hewc hgt.out.own hgt.out.far hsz.out (by unfold VT.cells at ho4 ⊢; rw [hgt.out.num, HVB.out.1, HVB.out.2]; exact ho4) hg4 hv4; have HG4 := Lib.hid hg4; clear ho4 hg4 hv4; obtain ⟨A5, q5, hA5⟩ := HO4.out.shape; replace hA5 : v4 = .slice A5 (ps.length + 1) q5 := (by rw [hA5, List.length_append]; rfl); subst hA5))
     have HS0' := HS0.out; have HS1' := HS1.out
     have e4 := (hHc.out.trans HX5.out).grown HG4.out (fun b hb => by have := (bV.out b hb).1; omega)
     have O5 : Hid (Box (w4.setCell ⟨w.heap.size + 1 + 1 + 1, 2, none⟩ (.slice A5 (ps.length + 1) q5)) (w.heap.size + 1 + 1 + 1) #[.int .i64 0, .slice none 0 0, .slice A5 (ps.length + 1) q5] 29) := hbo4.out.set 2 (.slice A5 (ps.length + 1) q5)
     have D5 : Hid (OwnTs W1 (w4.setCell ⟨w.heap.size + 1 + 1 + 1, 2, none⟩ (.slice A5 (ps.length + 1) q5)) (.slice A5 (ps.length + 1) q5) (ps ++ [t])) := HO4.out.keep (grown_set w4 ⟨w.heap.size + 1 + 1 + 1, 2, none⟩ _) (fun u hu b hb hh => by have h1 := (HO4.out.block u hu b hb).1; injection hh with hh; simp at hh; omega)
     have E5 := e4.setCell (p := ⟨w.heap.size + 1 + 1 + 1, 2, none⟩) (by show W0.heap.size ≤ w.heap.size + 1 + 1 + 1; omega) (.slice A5 (ps.length + 1) q5)
     have S5 : Hid (W1.heap.size ≤ (w4.setCell ⟨w.heap.size + 1 + 1 + 1, 2, none⟩ (.slice A5 (ps.length + 1) q5)).heap.size) := by
      have h1 := HG4.out.size; have h2 := HSZ2.out
      show _ ≤ _; simp only [World.size_setCell]; omega
     have N5 : Hid (itemsF (readV ds b) r n (m - (k + 1)) (k + 1) X.next (valsOf (ps ++ [t])) = R) := by
      show _ = _; rw [valsOf_append, valsOf, valsOf, hgt.out.val, ← HX.out, hst.out]
     have E5' := Lib.hid E5
     clear e4 HS0' HS1' E5
     go_wp2
     go_roundw
     case rel => exact ⟨k + 1, X.next, ps ++ [t], _, by omega, hnx, rfl, by go_num, by simp; omega, by simp; omega, N5, D5, O5, E5'.out, S5⟩
     case measure => simp [intOf]; omega
    ·rw [if_neg hc] at HX
     have hne : ((X.code : Int) != 0) = true := by simp [hc]
     have hRR : R = RR.bad X.next X.code := by rw [← hst.out, HX.out]
     subst hRR
     have r2 := hb12.cell; have f2 := hb12.free
     have HS0' := HS0.out
     have hput : Hid (Ext w (put3 wc (w.heap.size + 1 + 1) 0 t0)) := (e0.trans hEc).grown (grown_put3 wc (w.heap.size + 1 + 1) 0 t0) (fun g hg => by injection hg with hg; omega)
     clear hst HX hbg hb15 HS0' hc
     go_wp2
     exact bodyPost_ret (v := badRes X.next X.code) (by simp [results, Tryz.results73, go_sem, r2, f2, badRes, zeroV]) rfl (RdOut.bad hput.out)
  ·obtain rfl : k = m := by omega
   have hRR : R = ⟨.mk 0 [] (valsOf ps), a', 0⟩ := by rw [← hst.out, Nat.sub_self, itemsF]
   subst hRR
   obtain ⟨A5, c5, hA5⟩ := hod.out.shape
   subst hA5
   have hb12 := HB3.out.ext he
   have r2 := hb12.cell; have f2 := hb12.free
   have p2 := hbo.out.cell
   have HS0' := HS0.out; have HS1' := HS1.out
   have hG : Hid (GotV w (put3 wr (w.heap.size + 1 + 1) 0 (.mk 0 [] (.slice none 0 0) ps (.slice A5 ps.length c5))) (.mk 0 [] (.slice none 0 0) ps (.slice A5 ps.length c5)) (.mk 0 [] (valsOf ps)) ∧ Ext w (put3 wr (w.heap.size + 1 + 1) 0 (.mk 0 [] (.slice none 0 0) ps (.slice A5 ps.length c5)))) := by
    have o2 := hod.out.down (w0 := w) (by omega)
    refine val_out (by omega) (e0.trans he) ⟨by rw [VT.val], .mk (OwnL.nil _ _) o2.row o2.each, ?_⟩ ?_
    ·rw [VT.vals_eq]
     refine Far.cons hod.out.far ?_
     intro u hu b h1 h2
     cases h1
    ·intro u hu b hb
     rw [VT.vals_eq] at hu
     rcases List.mem_cons.1 hu with rfl | hu
     ·cases hb
     ·have := (hod.out.block u hu b hb).1; omega
   clear hst hod hbo hb12 HS0' HS1'
   go_wp2
   exact bodyPost_ret (v := .tuple #[.agg #[.int .i64 0, .slice none 0 0, .slice A5 ps.length c5], .int .i64 (a' : Int), .int .i64 0]) (by simp [results, Tryz.results73, go_sem, p2, r2, f2]) rfl ⟨.mk 0 [] (.slice none 0 0) ps (.slice A5 ps.length c5), rfl, hG.out.1, hG.out.2⟩
end Go.Proofs.YtpmcofmdjckijaaGreatDoor
