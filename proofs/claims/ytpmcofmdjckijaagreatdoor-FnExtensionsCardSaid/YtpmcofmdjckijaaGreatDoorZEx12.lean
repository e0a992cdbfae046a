/- (*comparison).compare of the program: the walk. -/
import Derived.Test.YtpmcofmdjckijaaGreatDoorZEx11
import Derived.Deep.RegionHeld3
import Derived.Test.YtpmcofmdjckijaaGreatDoorRows
import Derived.Stop.LaidErr
import Derived.LaidLaws
set_option linter.unusedVariables false
set_option linter.unusedSimpArgs false
set_option maxRecDepth 100000
set_option maxHeartbeats 16000000
namespace Go.Proofs.YtpmcofmdjckijaaGreatDoor
open Go.RowKit Go.Sort
open Go.Maps (Keyed)
structure Cmp where
 A : Option Addr
 a : List DRule
 c : Nat
 A' : Option Addr
 b : List DRule
 c' : Nat
 g : Nat
 bm : Nat
 w0 : World
structure Cmp.Ok (X : Cmp) : Prop where
 ra : RdD X.w0 X.A X.a X.c
 rb : RdD X.w0 X.A' X.b X.c'
 va : descOk X.a = true
 vb : descOk X.b = true
 sa : ShortD X.a
 sb : ShortD X.b
 bm : X.w0.heap.size ≤ X.bm
 ne : X.bm ≠ X.g
structure Cmp.St (X : Cmp) (w : World) (S : List (Nat × Nat)) : Prop where
 e0 : Ext X.w0 w
 box : Box w X.g #[.slice X.A X.a.length X.c, .slice X.A' X.b.length X.c', .map (some X.bm)] 66
 memo : Memo Tryz.prog 87 4 (ext X.a X.b) X.a.length X.b.length w X.bm S
def Moved (X : Cmp) (w : World) (S : List (Nat × Nat)) (n : Nat) (w' : World) : Prop := w.grownBy w' (some X.bm) ∧ ∃ S', X.St w' S' ∧ (∀ p ∈ S, p ∈ S') ∧ ∀ p ∈ S', p ∈ S ∨ p.1 < n
theorem Cmp.St.ext' {X : Cmp} {w w' : World} {S : List (Nat × Nat)} (h : X.St w S) (e : Ext w w') : X.St w' S := ⟨h.e0.trans e, h.box.ext e, h.memo.kept (grown_ext e none) (by simp)⟩
theorem Cmp.St.bm_lt {X : Cmp} {w : World} {S : List (Nat × Nat)} (h : X.St w S) : X.bm < w.heap.size := h.memo.block
theorem Moved.start {X : Cmp} {w w' : World} {S : List (Nat × Nat)} {n : Nat} (h : X.St w S) (e : Ext w w') : Moved X w S n w' := ⟨grown_ext e _, S, h.ext' e, fun _ hp => hp, fun _ hp => .inl hp⟩
theorem Moved.ext {X : Cmp} {w w1 w' : World} {S : List (Nat × Nat)} {n : Nat} (h : Moved X w S n w1) (e : Ext w1 w') : Moved X w S n w' := by
 obtain ⟨hg, S', h1, h2, h3⟩ := h
 exact ⟨hg.trans (grown_ext e _), S', h1.ext' e, h2, h3⟩
theorem Moved.from {X : Cmp} {w w1 w' : World} {S : List (Nat × Nat)} {n : Nat} (e : Ext w w1) (h : Moved X w1 S n w') : Moved X w S n w' := ⟨(grown_ext e _).trans h.1, h.2⟩
def AtW (T : World → Prop) (w : World) : Prop := T w
def RuleC (X : Cmp) (i : Nat) : Prop := ∀ j, j < X.b.length → ∀ w S, X.St w S →
 Calls Tryz.prog 32 #[.pointer (some ⟨X.g, 0, none⟩), .int .i64 (i : Int), .int .i64 (j : Int)] w fun e w' => e = .returned (.bool (ext X.a X.b i j)) ∧ Moved X w S (i + 1) w'
theorem Moved.step {X : Cmp} {w w1 w' : World} {S S1 : List (Nat × Nat)} {n m : Nat} (h : Moved X w S n w1) (hS : ∀ p ∈ S1, p ∈ S ∨ p.1 < n) (hS2 : ∀ p ∈ S, p ∈ S1) (h1 : Moved X w1 S1 m w') (hm : m ≤ n) : Moved X w S n w' := by
 obtain ⟨hg, S', g1, g2, g3⟩ := h1
 refine ⟨h.1.trans hg, S', g1, fun p hp => g2 p (hS2 p hp), fun p hp => ?_⟩
 rcases g3 p hp with h5 | h5
 ·exact hS p h5
 ·exact .inr (by omega)
theorem cmp_c (X : Cmp) (ok : X.Ok) (i j : Nat) (hi : i < X.a.length) (hj : j < X.b.length) (p q : DRule) (hp : X.a[i] = p) (hq : X.b[j] = q) (Ab : Option Addr) (cb : Nat) (An : Option Addr) (cn : Nat) (At : Option Addr) (ct : Nat) (Ak : Option Addr) (ck : Nat) (Ab' : Option Addr) (cb' : Nat) (An' : Option Addr) (cn' : Nat) (At' : Option Addr) (ct' : Nat) (Ak' : Option Addr) (ck' : Nat) (hSp : RdS X.w0 p Ab cb An cn At ct Ak ck) (hSq : RdS X.w0 q Ab' cb' An' cn' At' ct' Ak' ck') (IH : ∀ i', i' < i → RuleC X i') (w : World) (S : List (Nat × Nat)) (hst : X.St w S) :
 Calls Tryz.prog 56 #[.pointer (some ⟨X.g, 0, none⟩), vrule p (.slice Ab p.bytes.length cb) (.slice An p.names.length cn) (.slice At p.tags.length ct) (.slice Ak p.kids.length ck), vrule q (.slice Ab' q.bytes.length cb') (.slice An' q.names.length cn') (.slice At' q.tags.length ct') (.slice Ak' q.kids.length ck')] w fun e w' => e = .returned (.bool (ext X.a X.b i j)) ∧ Moved X w S i w' := by
 have hstep := ext_step ok.va i j hi hj
 have fp := ruleFacts ok.va i hi; have fq := ruleFacts ok.vb j hj
 have sp := ok.sa _ (List.getElem_mem hi); have sq := ok.sb _ (List.getElem_mem hj)
 have ka := kd_int ok.va i hi; have kb := kd_int ok.vb j hj
 have la := kd_lt ok.va i hi; have lb := kd_lt ok.vb j hj
 rw [hp] at hstep fp sp ka la
 rw [hq] at hstep fq sq kb lb
 have KA := Lib.hid ka; have KB := Lib.hid kb
 have IR : Hid (∀ t, t < p.kids.length → ∀ u, u < q.kids.length → ∀ w1 S1, X.St w1 S1 → Calls Tryz.prog 32 #[.pointer (some ⟨X.g, 0, none⟩), .int .i64 (kd p t : Int), .int .i64 (kd q u : Int)] w1 fun e w' => e = .returned (.bool (ext X.a X.b (kd p t) (kd q u))) ∧ Moved X w1 S1 (kd p t + 1) w') :=
  fun t ht u hu w1 S1 h => IH _ (la t ht) _ (by have := lb u hu; omega) w1 S1 h
 have HLA := Lib.hid la
 clear IH hp hq ka kb la lb
 have eb1 := Ext_alloc (.cells #[.string p.nm, .int .i64 p.kind, .int .i64 p.size, .bool p.little, .slice Ab p.bytes.length cb, .slice An p.names.length cn, .slice At p.tags.length ct, .slice Ak p.kids.length ck] 51) (Ext.refl w)
 have eb := Ext_alloc (.cells #[.string q.nm, .int .i64 q.kind, .int .i64 q.size, .bool q.little, .slice Ab' q.bytes.length cb', .slice An' q.names.length cn', .slice At' q.tags.length ct', .slice Ak' q.kids.length ck'] 51) eb1
 have hbm := hst.bm_lt
 obtain ⟨W1, hW1⟩ : ∃ W1, W1 = ((w.alloc (.cells #[.string p.nm, .int .i64 p.kind, .int .i64 p.size, .bool p.little, .slice Ab p.bytes.length cb, .slice An p.names.length cn, .slice At p.tags.length ct, .slice Ak p.kids.length ck] 51)).alloc (.cells #[.string q.nm, .int .i64 q.kind, .int .i64 q.size, .bool q.little, .slice Ab' q.bytes.length cb', .slice An' q.names.length cn', .slice At' q.tags.length ct', .slice Ak' q.kids.length ck'] 51)) := ⟨_, rfl⟩
 have bp : Box W1 w.heap.size #[.string p.nm, .int .i64 p.kind, .int .i64 p.size, .bool p.little, .slice Ab p.bytes.length cb, .slice An p.names.length cn, .slice At p.tags.length ct, .slice Ak p.kids.length ck] 51 := by rw [hW1]; exact (Box.new w _ _).ext (Ext_alloc _ (Ext.refl _))
 have bq : Box W1 (w.heap.size + 1) #[.string q.nm, .int .i64 q.kind, .int .i64 q.size, .bool q.little, .slice Ab' q.bytes.length cb', .slice An' q.names.length cn', .slice At' q.tags.length ct', .slice Ak' q.kids.length ck'] 51 := by rw [hW1]; have := Box.new (w.alloc (.cells #[.string p.nm, .int .i64 p.kind, .int .i64 p.size, .bool p.little, .slice Ab p.bytes.length cb, .slice An p.names.length cn, .slice At p.tags.length ct, .slice Ak p.kids.length ck] 51)) #[.string q.nm, .int .i64 q.kind, .int .i64 q.size, .bool q.little, .slice Ab' q.bytes.length cb', .slice An' q.names.length cn', .slice At' q.tags.length ct', .slice Ak' q.kids.length ck'] 51; rwa [show (w.alloc (.cells #[.string p.nm, .int .i64 p.kind, .int .i64 p.size, .bool p.little, .slice Ab p.bytes.length cb, .slice An p.names.length cn, .slice At p.tags.length ct, .slice Ak p.kids.length ck] 51)).heap.size = w.heap.size + 1 by simp] at this
 obtain ⟨Tt, hTt⟩ : ∃ Tt : World → Prop, AtW Tt = Moved X W1 S i := ⟨_, rfl⟩
 have HT := Lib.hid (fun w' => iff_of_eq (congrFun hTt w'))
 clear hTt
 have e01 : Ext w W1 := by rw [hW1]; exact eb
 have t0 : AtW Tt W1 := (HT.out _).2 (Moved.start (hst.ext' e01) (Ext.refl _))
 have FIN : Hid (∀ w', AtW Tt w' → Moved X w S i w') := fun w' h => Moved.from e01 ((HT.out _).1 h)
 have tE : Hid (∀ w1 w', AtW Tt w1 → Ext w1 w' → AtW Tt w') := fun w1 w' h e => (HT.out _).2 (((HT.out _).1 h).ext e)
 have tG : ∀ w1 d os, AtW Tt w1 → AtW Tt (grow (redrawn w1 d) os) := fun w1 d os h => tE.out w1 _ h (Ext_regrown d os (Ext.refl _))
 have tW : Hid (∀ w', AtW Tt w' → Ext X.w0 w') := fun w' h => by obtain ⟨_, S', h1, _⟩ := (HT.out _).1 h; exact h1.e0
 have P0 : ∀ w', AtW Tt w' → ∀ k, w'.cell? ⟨w.heap.size, k, none⟩ = #[.string p.nm, .int .i64 p.kind, .int .i64 p.size, .bool p.little, .slice Ab p.bytes.length cb, .slice An p.names.length cn, .slice At p.tags.length ct, .slice Ak p.kids.length ck][k]? := fun w' h => (bp.moved ((HT.out _).1 h).1 (by intro hh; injection hh with hh; omega)).cell
 have Q0 : ∀ w', AtW Tt w' → ∀ k, w'.cell? ⟨w.heap.size + 1, k, none⟩ = #[.string q.nm, .int .i64 q.kind, .int .i64 q.size, .bool q.little, .slice Ab' q.bytes.length cb', .slice An' q.names.length cn', .slice At' q.tags.length ct', .slice Ak' q.kids.length ck'][k]? := fun w' h => (bq.moved ((HT.out _).1 h).1 (by intro hh; injection hh with hh; omega)).cell
 have tR : Hid (∀ t, t < p.kids.length → ∀ u, u < q.kids.length → ∀ w1, AtW Tt w1 → Calls Tryz.prog 32 #[.pointer (some ⟨X.g, 0, none⟩), .int .i64 (kd p t : Int), .int .i64 (kd q u : Int)] w1 fun e w' => e = .returned (.bool (ext X.a X.b (kd p t) (kd q u))) ∧ AtW Tt w') := by
  intro t ht u hu w1 h
  have hm := (HT.out _).1 h
  obtain ⟨_, S1, h1, h2, h3⟩ := hm
  refine (IR.out t ht u hu w1 S1 h1).mono ?_
  rintro e w' ⟨he, hM⟩
  exact ⟨he, (HT.out _).2 (Moved.step ((HT.out _).1 h) h3 h2 hM (HLA.out t ht))⟩
 have CX : Hid (∀ w', AtW Tt w' → Gives Tryz.prog 77 #[vrule q (.slice Ab' q.bytes.length cb') (.slice An' q.names.length cn') (.slice At' q.tags.length ct') (.slice Ak' q.kids.length ck')] w' (.iface (extT q.kind) (vrule q (.slice Ab' q.bytes.length cb') (.slice An' q.names.length cn') (.slice At' q.tags.length ct') (.slice Ak' q.kids.length ck')))) := fun w' _ => extenderOf_c q Ab' cb' An' cn' At' ct' Ak' ck' w'
 have CS : Hid (∀ w', AtW Tt w' → Gives Tryz.prog (extF' q.kind) #[vrule q (.slice Ab' q.bytes.length cb') (.slice An' q.names.length cn') (.slice At' q.tags.length ct') (.slice Ak' q.kids.length ck'), vrule p (.slice Ab p.bytes.length cb) (.slice An p.names.length cn) (.slice At p.tags.length ct) (.slice Ak p.kids.length ck)] w' (.bool (selfB p q))) := fun w' h => self_c q p Ab' cb' An' cn' At' ct' Ak' ck' Ab cb An cn At ct Ak ck w' (hSq.ext (tW.out w' h)) (hSp.ext (tW.out w' h)) sq sp
 have CI : Hid (∀ t w', AtW Tt w' → Gives Tryz.prog 37 #[vrule q (.slice Ab' q.bytes.length cb') (.slice An' q.names.length cn') (.slice At' q.tags.length ct') (.slice Ak' q.kids.length ck'), .int .i64 t] w' (.int .i64 (tagI q.tags t))) := fun t w' h => iTagIx_c q Ab' cb' An' cn' At' ct' Ak' ck' t w' (hSq.ext (tW.out w' h))
 have HSP := Lib.hid hSp; have HSQ := Lib.hid hSq
 have hpk := hSp.k.len; have hpt := hSp.t.len; have hqk := hSq.k.len; have hqt := hSq.t.len
 clear IR bp bq e01 hst hSp hSq sp sq HT hbm HLA
 unfold vrule at *
 have hZ := Lib.hid hstep; clear hstep
 generalize ext X.a X.b i j = Z at *
 generalize p.little = lp at *
 generalize q.little = lq at *
 have hb0 : Tryz.prog = Tryz.prog := rfl
 clear hb0
 rw [hW1] at t0
 by_cases hk : p.kind = q.kind
 ·have hp7 : q.kind = 7 → p.kids.length = p.tags.length + 1 := fun h => (fp.cho (by omega)).1
  have hq7 : q.kind = 7 → q.kids.length = q.tags.length + 1 := fun h => (fq.cho h).1
  have CN := Lib.hid (fun h => hZ.out.trans (cmp_self_no fp fq hk (ext X.a X.b) h))
  have C7 := Lib.hid (fun h h7 => cmp_cho fp fq hk (ext X.a X.b) h h7)
  have C0 := Lib.hid (fun h h7 => cmp_other fp fq hk (ext X.a X.b) h h7)
  have h1 : (p.kind != q.kind) = false := by simp [hk]
  have HZZ := Lib.hid hZ.out
  clear hk hZ fp fq
  have KP := Lib.hid (fun t (ht : t < p.kids.length) => HSP.out.k.at t ht)
  have KQ := Lib.hid (fun t (ht : t < q.kids.length) => HSQ.out.k.at t ht)
  have TP := Lib.hid (fun t (ht : t < p.tags.length) => HSP.out.t.at t ht)
  have FINR : Hid (∀ w', AtW Tt w' → Moved X w S i w') := FIN.out
  generalize hSB : selfB p q = z at *
  clear hSB
  have KK : ∀ k : Int, (q.kind == k) = decide (q.kind = k) := fun k => by rw [Bool.eq_iff_iff]; simp
  cases z
  ·have HE := Lib.hid (CN.out rfl); clear CN C7 C0 KK
   go_enter Tryz.func56, Tryz.ntmps56
   go_wp2_with fail
   refine wp_region_quiet_below (by kernel_rfl) (by kernel_rfl) ?_
   repeat (first
    | (go_big_quiet_want; refine quiet_invoke (.tmp 17) (.tmp 18) _ _ rfl _ _ _ _ rfl rfl (fun w => ext_method q.kind _ w) (fun args w => ext_called q.kind args w) (.bool false) ?_ ?_; (· rintro _ ⟨pp, rfl⟩; exact Calls.regrown_of (CS.out _ (by first | assumption | exact tG _ _ _ t0))); (simp only [Act.put, lpa, lpz, lps]); go_big_quiet_on)
    | go_big_quiet_step ((go_at_call 77; exact Calls.regrown_of (CX.out _ (by first | assumption | exact tG _ _ _ t0)))))
   refine wpQuiet_nil ?_
   rintro w2 ⟨⟨nq, osq⟩, hq⟩
   have ew2 := ext_of_q hq
   clear hq nq osq
   have ht2 : AtW Tt w2 := tE.out _ _ t0 ew2
   go_wp2
   go_ret
   exact ⟨ret_bool HE.out.symm, FIN.out _ ht2⟩
  by_cases h7 : q.kind = 7
  ·obtain ⟨hZ7, hin⟩ := C7.out rfl h7
   have HE := Lib.hid (HZZ.out.trans hZ7)
   have HIN := Lib.hid hin
   have k7 : (q.kind == 7) = true := by rw [KK]; exact decide_eq_true h7
   have HCP := Lib.hid (hp7 h7); have HCQ := Lib.hid (hq7 h7)
   clear hZ7 hin CN C7 C0 KK h7 hp7 hq7
   go_enter Tryz.func56, Tryz.ntmps56
   go_wp2_with fail
   refine wp_region_quiet_below (by kernel_rfl) (by kernel_rfl) ?_
   repeat (first
    | (go_big_quiet_want; refine quiet_invoke (.tmp 17) (.tmp 18) _ _ rfl _ _ _ _ rfl rfl (fun w => ext_method q.kind _ w) (fun args w => ext_called q.kind args w) (.bool true) ?_ ?_; (· rintro _ ⟨pp, rfl⟩; exact Calls.regrown_of (CS.out _ (by first | assumption | exact tG _ _ _ t0))); (simp only [Act.put, lpa, lpz, lps]); go_big_quiet_on)
    | go_big_quiet_step ((go_at_call 77; exact Calls.regrown_of (CX.out _ (by first | assumption | exact tG _ _ _ t0)))))
   refine wpQuiet_nil ?_
   rintro w2 ⟨⟨nq, osq⟩, hq⟩
   have ew2 := ext_of_q hq
   clear hq nq osq
   have ht2 : AtW Tt w2 := tE.out _ _ t0 ew2
   clear t0
   go_wp2
   go_loopw [28] (fun ix wr => ∃ k : Nat, k ≤ p.tags.length ∧ ix = .int .i64 k ∧ Hid (∀ t, t < k → ext X.a X.b (kd p (t + 1)) (kd q (tagN q.tags (p.tags.getD t 0) + 1)) = true) ∧ AtW Tt wr) (fun ix _ => p.tags.length - (intOf ix).toNat)
   case atStart => exact ⟨0, by omega, rfl, (fun t ht => by omega), ht2⟩
   case round =>
    clear ht2
    obtain ⟨k, hk, rfl, hn, ht⟩ := hrel
    by_cases hlt : k < p.tags.length
    ·have hg : p.tags.getD k 0 = p.tags[k] := by simp [hlt]
     have hT := HIN.out k hlt
     have YES : Hid (ext X.a X.b (kd p (k + 1)) (kd q (tagN q.tags (p.tags.getD k 0) + 1)) = true → ∀ t, t < k + 1 → ext X.a X.b (kd p (t + 1)) (kd q (tagN q.tags (p.tags.getD t 0) + 1)) = true) := fun h => upTo (f := fun t => ext X.a X.b (kd p (t + 1)) (kd q (tagN q.tags (p.tags.getD t 0) + 1))) hn.out h
     have NO : Hid (ext X.a X.b (kd p (k + 1)) (kd q (tagN q.tags (p.tags.getD k 0) + 1)) = false → Z = false) := fun h => HE.out.trans (by rw [allN_no (f := fun t => ext X.a X.b (kd p (t + 1)) (kd q (tagN q.tags (p.tags.getD t 0) + 1))) hlt h]; rfl)
     rw [hg] at YES NO hT
     have hk1 : k + 1 < p.kids.length := by have := HCP.out; omega
     have hu1 : tagN q.tags p.tags[k] + 1 < q.kids.length := by have := HCQ.out; omega
     have C1 : Hid (∀ w', AtW Tt w' → Gives Tryz.prog 37 #[.agg #[.string q.nm, .int .i64 q.kind, .int .i64 q.size, .bool lq, .slice Ab' q.bytes.length cb', .slice An' q.names.length cn', .slice At' q.tags.length ct', .slice Ak' q.kids.length ck'], .int .i64 p.tags[k]] w' (.int .i64 (tagN q.tags p.tags[k] : Int))) := fun w' h => by
      have := CI.out p.tags[k] w' h
      unfold tagI at this
      rw [if_pos hT] at this
      exact this
     obtain ⟨bt, ot, hAt, hbt, hct⟩ := TP.out k hlt
     subst hAt
     obtain ⟨bk, ok, hAk, hbk, hck⟩ := KP.out (k + 1) hk1
     subst hAk
     obtain ⟨bk', ok', hAk', hbk', hck'⟩ := KQ.out _ hu1
     subst hAk'
     rw [KA.out _ hk1] at hck
     rw [KB.out _ hu1] at hck'
     have R1 := Lib.hid (tR.out (k + 1) hk1 _ hu1)
     replace hct := fun w' (h : AtW Tt w') => hct w' (tW.out w' h); replace hck := fun w' (h : AtW Tt w') => hck w' (tW.out w' h); replace hck' := fun w' (h : AtW Tt w') => hck' w' (tW.out w' h)
     clear hg hn
     have d1 : decide ((k : Int) < (p.tags.length : Int)) = true := decide_eq_true (by omega)
     generalize p.tags[k] = x at *
     have hT2 : tagN q.tags x + 1 < 9223372036854775807 := by omega
     generalize tagN q.tags x = y at *
     generalize kd p (k + 1) = u at *
     generalize kd q (y + 1) = v at *
     generalize ext X.a X.b u v = r at *
     have w1 : IntKind.i64.wrap ((k : Int) + 1) = (k : Int) + 1 := IntWalk.i64_in _ (by omega)
     have w2' : IntKind.i64.wrap ((y : Int) + 1) = (y : Int) + 1 := IntWalk.i64_in _ (by omega)
     have b1 : (0 : Int) ≤ (k : Int) + 1 := by omega
     have b2 : ((k : Int) + 1) < (p.kids.length : Int) := by omega
     have b3 : (0 : Int) ≤ (y : Int) + 1 := by omega
     have b4 : ((y : Int) + 1) < (q.kids.length : Int) := by omega
     go_wp2_with fail
     go_region_held3 (fun w' => AtW Tt w') (first | assumption | exact tE.out _ _ (by assumption) (Ext_drew (Ext.refl _)) | exact tE.out _ _ (by assumption) (by assumption)) (first
      | (go_at_call 37; refine (C1.out _ (by assumption)).mono ?_; rintro _ w3 ⟨rfl, s3⟩)
      | (go_at_call 32; refine (R1.out _ (by assumption)).mono ?_; rintro _ w4 ⟨rfl, h4⟩))
     have h5 : AtW Tt w4 := by assumption
     cases r
     ·have HF := Lib.hid (NO.out rfl); clear YES NO
      go_wp2
      go_ret
      exact ⟨ret_bool HF.out.symm, FIN.out _ h5⟩
     ·have HF := Lib.hid (YES.out rfl); clear YES NO
      go_wp2
      go_roundw
      case rel => exact ⟨k + 1, by omega, by go_num, HF, h5⟩
      case measure => simp [intOf]; omega
    ·have HF : Hid (Z = ext X.a X.b (kd p 0) (kd q 0)) := HE.out.trans (by rw [allN_yes (f := fun t => ext X.a X.b (kd p (t + 1)) (kd q (tagN q.tags (p.tags.getD t 0) + 1))) (fun t ht => hn.out t (by omega)), Bool.true_and])
     have hk1 : 0 < p.kids.length := by have := HCP.out; omega
     have hu1 : 0 < q.kids.length := by have := HCQ.out; omega
     obtain ⟨bk, ok, hAk, hbk, hck⟩ := KP.out 0 hk1
     subst hAk
     obtain ⟨bk', ok', hAk', hbk', hck'⟩ := KQ.out 0 hu1
     subst hAk'
     rw [KA.out _ hk1] at hck
     rw [KB.out _ hu1] at hck'
     have R1 := Lib.hid (tR.out 0 hk1 _ hu1)
     replace hck := fun w' (h : AtW Tt w') => hck w' (tW.out w' h); replace hck' := fun w' (h : AtW Tt w') => hck' w' (tW.out w' h)
     simp only [Nat.add_zero] at hck hck'
     have d1 : decide ((k : Int) < (p.tags.length : Int)) = false := decide_eq_false (by omega)
     generalize kd p 0 = u at *
     generalize kd q 0 = v at *
     generalize ext X.a X.b u v = r at *
     go_wp2_with fail
     go_region_held3 (fun w' => AtW Tt w') (first | assumption | exact tE.out _ _ (by assumption) (Ext_drew (Ext.refl _)) | exact tE.out _ _ (by assumption) (by assumption)) (first
      | (go_at_call 32; refine (R1.out _ (by assumption)).mono ?_; rintro _ w4 ⟨rfl, h4⟩))
     have h5 : AtW Tt w4 := by assumption
     go_wp2
     go_ret
     exact ⟨ret_bool HF.out.symm, FIN.out _ h5⟩
  ·obtain ⟨hZ0, hkl⟩ := C0.out rfl h7
   have HE := Lib.hid (HZZ.out.trans hZ0)
   have HKL := Lib.hid hkl
   have k7 : (q.kind == 7) = false := by rw [KK]; exact decide_eq_false h7
   clear hZ0 hkl CN C7 C0 KK h7 hp7 hq7
   go_enter Tryz.func56, Tryz.ntmps56
   go_wp2_with fail
   refine wp_region_quiet_below (by kernel_rfl) (by kernel_rfl) ?_
   repeat (first
    | (go_big_quiet_want; refine quiet_invoke (.tmp 17) (.tmp 18) _ _ rfl _ _ _ _ rfl rfl (fun w => ext_method q.kind _ w) (fun args w => ext_called q.kind args w) (.bool true) ?_ ?_; (· rintro _ ⟨pp, rfl⟩; exact Calls.regrown_of (CS.out _ (by first | assumption | exact tG _ _ _ t0))); (simp only [Act.put, lpa, lpz, lps]); go_big_quiet_on)
    | go_big_quiet_step ((go_at_call 77; exact Calls.regrown_of (CX.out _ (by first | assumption | exact tG _ _ _ t0)))))
   refine wpQuiet_nil ?_
   rintro w2 ⟨⟨nq, osq⟩, hq⟩
   have ew2 := ext_of_q hq
   clear hq nq osq
   have ht2 : AtW Tt w2 := tE.out _ _ t0 ew2
   clear t0
   go_wp2
   go_loopw [64] (fun ix wr => ∃ k : Nat, k ≤ q.kids.length ∧ ix = .int .i64 k ∧ Hid (∀ t, t < k → ext X.a X.b (kd p t) (kd q t) = true) ∧ AtW Tt wr) (fun ix _ => q.kids.length - (intOf ix).toNat)
   case atStart => exact ⟨0, by omega, rfl, (fun t ht => by omega), ht2⟩
   case round =>
    clear ht2
    obtain ⟨k, hk, rfl, hn, ht⟩ := hrel
    by_cases hlt : k < q.kids.length
    ·have hk1 : k < p.kids.length := by have := HKL.out; omega
     have YES : Hid (ext X.a X.b (kd p k) (kd q k) = true → ∀ t, t < k + 1 → ext X.a X.b (kd p t) (kd q t) = true) := fun h => upTo (f := fun t => ext X.a X.b (kd p t) (kd q t)) hn.out h
     have NO : Hid (ext X.a X.b (kd p k) (kd q k) = false → Z = false) := fun h => HE.out.trans (allN_no (f := fun t => ext X.a X.b (kd p t) (kd q t)) hlt h)
     obtain ⟨bk, ok, hAk, hbk, hck⟩ := KP.out k hk1
     subst hAk
     obtain ⟨bk', ok', hAk', hbk', hck'⟩ := KQ.out k hlt
     subst hAk'
     rw [KA.out _ hk1] at hck
     rw [KB.out _ hlt] at hck'
     have R1 := Lib.hid (tR.out k hk1 _ hlt)
     replace hck := fun w' (h : AtW Tt w') => hck w' (tW.out w' h); replace hck' := fun w' (h : AtW Tt w') => hck' w' (tW.out w' h)
     clear hn
     have d1 : decide ((k : Int) < (q.kids.length : Int)) = true := decide_eq_true (by omega)
     generalize kd p k = u at *
     generalize kd q k = v at *
     generalize ext X.a X.b u v = r at *
     have b1 : (0 : Int) ≤ (k : Int) := by omega
     have b2 : (k : Int) < (p.kids.length : Int) := by omega
     have b4 : (k : Int) < (q.kids.length : Int) := by omega
     go_wp2_with fail
     go_region_held3 (fun w' => AtW Tt w') (first | assumption | exact tE.out _ _ (by assumption) (Ext_drew (Ext.refl _)) | exact tE.out _ _ (by assumption) (by assumption)) (first
      | (go_at_call 32; refine (R1.out _ (by assumption)).mono ?_; rintro _ w4 ⟨rfl, h4⟩))
     have h5 : AtW Tt w4 := by assumption
     cases r
     ·have HF := Lib.hid (NO.out rfl); clear YES NO
      go_wp2
      go_ret
      exact ⟨ret_bool HF.out.symm, FIN.out _ h5⟩
     ·have HF := Lib.hid (YES.out rfl); clear YES NO
      go_wp2
      go_roundw
      case rel => exact ⟨k + 1, by omega, by go_num, HF, h5⟩
      case measure => simp [intOf]; omega
    ·have HF : Hid (Z = true) := HE.out.trans (allN_yes (f := fun t => ext X.a X.b (kd p t) (kd q t)) fun t ht => hn.out t (by omega))
     have d1 : decide ((k : Int) < (q.kids.length : Int)) = false := decide_eq_false (by omega)
     go_wp2
     go_ret
     exact ⟨ret_bool HF.out.symm, FIN.out _ ht⟩
 ·have HE : Hid (Z = false) := hZ.out.trans (by unfold extHead; rw [show (p.kind == q.kind) = false by simpa using hk]; rfl)
  have h1 : (p.kind != q.kind) = true := by simpa using hk
  clear hk hZ fp fq
  go_enter Tryz.func56, Tryz.ntmps56
  go_wp2_with fail
  refine wp_region_quiet_below (by kernel_rfl) (by kernel_rfl) ?_
  repeat (go_big_quiet_step (fail))
  refine wpQuiet_nil ?_
  rintro w2 ⟨⟨nq, osq⟩, hq⟩
  have ew2 := ext_of_q hq
  clear hq nq osq
  go_wp2
  go_ret
  exact ⟨ret_bool HE.out.symm, FIN.out _ (tE.out _ _ (hW1 ▸ t0) (by rw [hW1]; exact ew2))⟩
theorem rule_c (X : Cmp) (ok : X.Ok) : ∀ n i, i < n → i < X.a.length → RuleC X i := by
 intro n
 induction n with
 | zero => intro i hi; omega
 | succ n ih =>
  intro i hin hi j hj w S hst
  have hla := (descOk_len ok.va).2; have hlb := (descOk_len ok.vb).2
  obtain ⟨ba, oa, Ab, cb, An, cn, At, ct, Ak, ck, hA, hba, hSa, hRa⟩ := ok.ra.at i hi
  obtain ⟨bb, ob, Ab', cb', An', cn', At', ct', Ak', ck', hA', hbb, hSb, hRb⟩ := ok.rb.at j hj
  have C := Lib.hid (cmp_c X ok i j hi hj _ _ rfl rfl Ab cb An cn At ct Ak ck Ab' cb' An' cn' At' ct' Ak' ck' hSa hSb (fun i' hi' => ih i' (by omega) (by omega)))
  have hne := ok.ne; have hbm := ok.bm
  clear ih ok hin hSa hSb
  generalize X.a[i] = p at *
  generalize X.b[j] = q at *
  obtain ⟨Tt, hTt⟩ : ∃ Tt : World → Prop, AtW Tt = Moved X w S i := ⟨_, rfl⟩
  have HT := Lib.hid (fun w' => iff_of_eq (congrFun hTt w'))
  clear hTt
  have t0 : AtW Tt w := (HT.out _).2 (Moved.start hst (Ext.refl _))
  have tE : Hid (∀ w1 w', AtW Tt w1 → Ext w1 w' → AtW Tt w') := fun w1 w' h e => (HT.out _).2 (((HT.out _).1 h).ext e)
  have tW : Hid (∀ w', AtW Tt w' → Ext X.w0 w') := fun w' h => by obtain ⟨_, S', h1, _⟩ := (HT.out _).1 h; exact h1.e0
  have B0 : ∀ w', AtW Tt w' → w'.cell? ⟨X.g, 0, none⟩ = some (.slice (some ⟨ba, oa, none⟩) X.a.length X.c) := fun w' h => by obtain ⟨_, S', h1, _⟩ := (HT.out _).1 h; rw [← hA]; exact h1.box.cell 0
  have B1 : ∀ w', AtW Tt w' → w'.cell? ⟨X.g, 1, none⟩ = some (.slice (some ⟨bb, ob, none⟩) X.b.length X.c') := fun w' h => by obtain ⟨_, S', h1, _⟩ := (HT.out _).1 h; rw [← hA']; exact h1.box.cell 1
  have B2 : ∀ w', AtW Tt w' → w'.cell? ⟨X.g, 2, none⟩ = some (.map (some X.bm)) := fun w' h => by obtain ⟨_, S', h1, _⟩ := (HT.out _).1 h; exact h1.box.cell 2
  obtain ⟨m0, m1, m2, m3, m4, m5, m6, m7⟩ := hRa
  obtain ⟨r0, r1, r2, r3, r4, r5, r6, r7⟩ := hRb
  replace m0 := fun w' (h : AtW Tt w') => m0 w' (tW.out w' h); replace m1 := fun w' (h : AtW Tt w') => m1 w' (tW.out w' h); replace m2 := fun w' (h : AtW Tt w') => m2 w' (tW.out w' h); replace m3 := fun w' (h : AtW Tt w') => m3 w' (tW.out w' h); replace m4 := fun w' (h : AtW Tt w') => m4 w' (tW.out w' h); replace m5 := fun w' (h : AtW Tt w') => m5 w' (tW.out w' h); replace m6 := fun w' (h : AtW Tt w') => m6 w' (tW.out w' h); replace m7 := fun w' (h : AtW Tt w') => m7 w' (tW.out w' h)
  replace r0 := fun w' (h : AtW Tt w') => r0 w' (tW.out w' h); replace r1 := fun w' (h : AtW Tt w') => r1 w' (tW.out w' h); replace r2 := fun w' (h : AtW Tt w') => r2 w' (tW.out w' h); replace r3 := fun w' (h : AtW Tt w') => r3 w' (tW.out w' h); replace r4 := fun w' (h : AtW Tt w') => r4 w' (tW.out w' h); replace r5 := fun w' (h : AtW Tt w') => r5 w' (tW.out w' h); replace r6 := fun w' (h : AtW Tt w') => r6 w' (tW.out w' h); replace r7 := fun w' (h : AtW Tt w') => r7 w' (tW.out w' h)
  have CT : Hid (∀ w1, AtW Tt w1 → Calls Tryz.prog 56 #[.pointer (some ⟨X.g, 0, none⟩), vrule p (.slice Ab p.bytes.length cb) (.slice An p.names.length cn) (.slice At p.tags.length ct) (.slice Ak p.kids.length ck), vrule q (.slice Ab' q.bytes.length cb') (.slice An' q.names.length cn') (.slice At' q.tags.length ct') (.slice Ak' q.kids.length ck')] w1 fun e w' => e = .returned (.bool (ext X.a X.b i j)) ∧ AtW Tt w') := by
   intro w1 h
   obtain ⟨_, S1, h1, h2, h3⟩ := (HT.out _).1 h
   refine (C.out w1 S1 h1).mono ?_
   rintro e w' ⟨he, hM⟩
   exact ⟨he, (HT.out _).2 (Moved.step ((HT.out _).1 h) h3 h2 hM (Nat.le_refl _))⟩
  have KO := Lib.hid (fun (x y : Nat) (hx : x < X.a.length) (hy : y < X.b.length) => pairKeyOf x y (by omega) (by omega))
  have HM := Lib.hid hst.memo; have HST := Lib.hid hst
  have FIN : Hid (∀ w4 w5 S1, w.grownBy w4 (some X.bm) → X.St w4 S1 → (∀ p ∈ S, p ∈ S1) → (∀ p ∈ S1, p ∈ S ∨ p.1 < i) → Memo Tryz.prog 87 4 (ext X.a X.b) X.a.length X.b.length w5 X.bm ((i, j) :: S1) → w4.grownBy w5 (some X.bm) → Moved X w S (i + 1) w5) := by
   intro w4 w5 S1 g0 h1 h2 h3 hmem hg
   refine ⟨g0.trans hg, (i, j) :: S1, ⟨h1.e0.grown hg (fun k hk => by injection hk with hk; omega), h1.box.moved hg (by intro hh; injection hh with hh; exact hne hh), hmem⟩, fun p hp => List.mem_cons_of_mem _ (h2 p hp), fun p hp => ?_⟩
   rcases List.mem_cons.1 hp with rfl | hp
   ·exact .inr (Nat.lt_succ_self _)
   ·rcases h3 p hp with h4 | h4
    ·exact .inl h4
    ·exact .inr (by omega)
  clear C hne hbm hst
  unfold vrule at *
  generalize hZ : ext X.a X.b i j = Z at *
  have HZ := Lib.hid hZ; clear hZ
  have qi : (i : Int) < (X.a.length : Int) := by omega
  have qj : (j : Int) < (X.b.length : Int) := by omega
  have qi0 : (0 : Int) ≤ (i : Int) := by omega
  have qj0 : (0 : Int) ≤ (j : Int) := by omega
  have b0 := B0 w t0; have b1 := B1 w t0; have b2 := B2 w t0
  go_enter Tryz.func32, Tryz.ntmps32
  go_wp2_with (first
   | (at_lookup; go_must (obtain ⟨kl, hkl⟩ := KO.out i j hi hj; refine HM.out.look rfl (.tmp 14) (.tmp 17) rfl pairKey Tryz.underlying64 Tryz.underlying4 (zeroBool w) rfl rfl hi hj hkl (fun hno => ?_) (fun hyes => ?_))))
  ·clear b0 b1 b2 HM
   go_region_held3 (fun w' => AtW Tt w') (first | assumption | exact tE.out _ _ (by assumption) (Ext_drew (Ext.refl _)) | exact tE.out _ _ (by assumption) (by assumption)) (first
    | (go_at_call 56; refine (CT.out _ (by assumption)).mono ?_; rintro _ w4 ⟨rfl, h4⟩))
   have h5 : AtW Tt w4 := by assumption
   obtain ⟨g0, S1, g1, g2, g3⟩ := (HT.out _).1 h5
   have HM4 := Lib.hid g1.memo; have hla' := Lib.hid hla; have hlb' := Lib.hid hlb
   have hnew : (i, j) ∉ S1 := fun h => by
    rcases g3 _ h with h | h
    ·exact hno h
    ·exact Nat.lt_irrefl _ h
   have F1 := Lib.hid (fun w5 hm hg => FIN.out w4 w5 S1 g0 g1 g2 g3 hm hg)
   have b2 := B2 w4 h5
   clear g0 g1 g2
   go_wp2_with (first
    | (at_mapUpdate; go_must (refine HM4.out.store rfl (.tmp 44) (.tmp 47) (.tmp 48) rfl pairKey Tryz.underlying64 Tryz.underlying4 hla'.out hlb'.out rfl rfl (congrArg Value.bool HZ.out.symm) hi hj KO.out hnew (fun w5 hm5 hg5 => ?_))))
   go_ret
   exact ⟨rfl, F1.out w5 hm5 hg5⟩
  ·go_ret
   exact ⟨ret_bool HZ.out, (Moved.start HST.out (Ext.refl _))⟩
end Go.Proofs.YtpmcofmdjckijaaGreatDoor
namespace Go.Proofs.YtpmcofmdjckijaaGreatDoor
open Go.RowKit Go.Sort
theorem knownE_at {a : List DRule} {ra : Int} (h : knownB a ra = true) : ∃ i : Nat, ∃ _ : i < a.length, ra = (i : Int) := by
 unfold knownB at h; simp at h; exact ⟨ra.toNat, by omega, by omega⟩
theorem known_desc {ds : List DRule} {i : Int} (h : knownB ds i = true) : descOk ds = true := by unfold knownB at h; rw [Bool.and_eq_true] at h; exact h.1
theorem iExtRule_c (A A' : Option Addr) (a b : List DRule) (c c' : Nat) (ra rb : Int) (w : World) (ha : RdD w A a c) (hb : RdD w A' b c') (hsa : ShortD a) (hwa : WfD a) (hsb : ShortD b) (hwb : WfD b) :
 Gives Tryz.prog 12 #[vdesc (.slice A a.length c), .int .i64 ra, vdesc (.slice A' b.length c'), .int .i64 rb] w (.bool (extRule a b ra rb)) := by
 have eb := Ext_alloc (.cells #[.slice A' b.length c'] 26) (Ext_alloc (.cells #[.slice A a.length c] 26) (Ext.refl w))
 have BX := fun w' (e : Ext ((w.alloc (.cells #[.slice A a.length c] 26)).alloc (.cells #[.slice A' b.length c'] 26)) w') => boxed2 e
 have B0 := fun w' e => (BX w' e).1
 have B1 := fun w' e => (BX w' e).2.1
 clear BX
 have CA := Lib.hid (fun w h => iKnown_c A a c ra w h hsa hwa)
 have CB := Lib.hid (fun w h => iKnown_c A' b c' rb w h hsb hwb)
 have HA := Lib.hid ha; have HB := Lib.hid hb
 have HSA := Lib.hid hsa; have HSB := Lib.hid hsb
 clear ha hb hsa hsb hwa hwb
 unfold vdesc at *
 cases hka : knownB a ra
 ·have HE : Hid (extRule a b ra rb = false) := by show _ = _; unfold extRule; rw [hka]; rfl
  rw [HE.out]
  rw [hka] at CA; clear hka
  go_enter Tryz.func12, Tryz.ntmps12
  go_wp2_with fail
  refine (CA.out _ (HA.out.ext eb)).mono ?_; rintro _ w1 ⟨rfl, s1⟩
  go_wp2
  go_ret
  exact ⟨rfl, eb.trans s1⟩
 cases hkb : knownB b rb
 ·have HE : Hid (extRule a b ra rb = false) := by show _ = _; unfold extRule; rw [hka, hkb]; rfl
  rw [HE.out]
  rw [hka] at CA; rw [hkb] at CB; clear hka hkb
  go_enter Tryz.func12, Tryz.ntmps12
  go_wp2_with fail
  refine (CA.out _ (HA.out.ext eb)).mono ?_; rintro _ w1 ⟨rfl, s1⟩
  have e1 := eb.trans s1
  replace B1 := fun w' (e : Ext w1 w') => B1 w' (Ext.trans s1 e)
  go_wp2_with fail
  refine (CB.out _ (HB.out.ext e1)).mono ?_; rintro _ w2 ⟨rfl, s2⟩
  go_wp2
  go_ret
  exact ⟨rfl, e1.trans s2⟩
 have HVA := Lib.hid (known_desc hka); have HVB := Lib.hid (known_desc hkb)
 obtain ⟨i, hi, rfl⟩ := knownE_at hka
 obtain ⟨j, hj, rfl⟩ := knownE_at hkb
 have HE : Hid (extRule a b (i : Int) (j : Int) = ext a b i j) := by show _ = _; unfold extRule; rw [hka, hkb]; simp
 rw [HE.out]
 rw [hka] at CA; rw [hkb] at CB; clear hka hkb HE
 go_enter Tryz.func12, Tryz.ntmps12
 go_wp2_with fail
 refine (CA.out _ (HA.out.ext eb)).mono ?_; rintro _ w1 ⟨rfl, s1⟩
 have e1 := eb.trans s1
 replace B0 := fun w' (e : Ext w1 w') => B0 w' (Ext.trans s1 e)
 replace B1 := fun w' (e : Ext w1 w') => B1 w' (Ext.trans s1 e)
 go_wp2_with fail
 refine (CB.out _ (HB.out.ext e1)).mono ?_; rintro _ w2 ⟨rfl, s2⟩
 have e2 := e1.trans s2
 replace B0 := fun w' (e : Ext w2 w') => B0 w' (Ext.trans s2 e)
 replace B1 := fun w' (e : Ext w2 w') => B1 w' (Ext.trans s2 e)
 clear s1 s2 e1 eb CA CB
 have x1 := Ext_alloc (.map #[] 0) (Ext.refl w2)
 have hsz : (w2.alloc (.map #[] 0)).heap.size = w2.heap.size + 1 := by simp
 have x2 : Ext w2 ((w2.alloc (.map #[] 0)).alloc (.cells #[.slice A a.length c, .slice A' b.length c', .map (some w2.heap.size)] 66)) := Ext_alloc _ x1
 have bx := Box.new (w2.alloc (.map #[] 0)) #[.slice A a.length c, .slice A' b.length c', .map (some w2.heap.size)] 66
 rw [hsz] at bx
 have OK : Hid (Cmp.Ok ⟨A, a, c, A', b, c', w2.heap.size + 1, w2.heap.size, w2⟩) := ⟨HA.out.ext e2, HB.out.ext e2, HVA.out, HVB.out, HSA.out, HSB.out, Nat.le_refl _, by simp⟩
 have ST : Hid (Cmp.St ⟨A, a, c, A', b, c', w2.heap.size + 1, w2.heap.size, w2⟩ ((w2.alloc (.map #[] 0)).alloc (.cells #[.slice A a.length c, .slice A' b.length c', .map (some w2.heap.size)] 66)) []) :=
  ⟨x2, bx, (Memo.made w2).kept (grown_ext (Ext_alloc _ (Ext.refl _)) none) (by simp)⟩
 have C := Lib.hid (rule_c _ OK.out (i + 1) i (Nat.lt_succ_self _) hi j hj _ _ ST.out)
 clear bx hsz
 have hmm : ∀ w : World, (Instr.makeMap 64 none).run Tryz.prog w = .ok (.map (some w.heap.size)) (w.alloc (.map #[] 0)) := fun w => rfl
 go_wp2_with fail
 refine C.out.mono ?_
 rintro _ w3 ⟨rfl, hg, _⟩
 go_wp2
 go_ret
 exact ⟨rfl, (e2.trans x2).grown hg (fun k hk => by injection hk with hk; have := e2.size; omega)⟩
theorem sExtRule_c (A A' : Option Addr) (a b : List DRule) (c c' : Nat) (ra rb : Int) (w : World) (ha : RdD w A a c) (hb : RdD w A' b c') (hsa : ShortD a) (hwa : WfD a) (hsb : ShortD b) (hwb : WfD b) :
 Gives Tryz.prog 13 #[vdesc (.slice A a.length c), .int .i64 ra, vdesc (.slice A' b.length c'), .int .i64 rb] w (.bool (extRule a b ra rb)) := by
 have eb := Ext_alloc (.cells #[.slice A' b.length c'] 26) (Ext_alloc (.cells #[.slice A a.length c] 26) (Ext.refl w))
 have BX := fun w' (e : Ext ((w.alloc (.cells #[.slice A a.length c] 26)).alloc (.cells #[.slice A' b.length c'] 26)) w') => boxed2 e
 have B0 := fun w' e => (BX w' e).1
 have B1 := fun w' e => (BX w' e).2.1
 clear BX
 have CA := Lib.hid (fun w h => sKnown_c A a c ra w h hsa hwa)
 have CB := Lib.hid (fun w h => sKnown_c A' b c' rb w h hsb hwb)
 have HA := Lib.hid ha; have HB := Lib.hid hb
 have HSA := Lib.hid hsa; have HSB := Lib.hid hsb
 clear ha hb hsa hsb hwa hwb
 have SX : Hid (∀ (i j : Nat), i < a.length → j < b.length → descOk a = true → descOk b = true → ∀ w', Ext w w' → Gives Tryz.prog 34 #[vdesc (.slice A a.length c), .int .i64 (i : Int), vdesc (.slice A' b.length c'), .int .i64 (j : Int)] w' (.bool (ext a b i j))) :=
  fun i j hi hj hva hvb w' e => sExt_c A A' a b c c' w HA.out HB.out hva hvb HSA.out HSB.out (i + 1) i (Nat.lt_succ_self _) hi j hj w' e
 unfold vdesc at *
 cases hka : knownB a ra
 ·have HE : Hid (extRule a b ra rb = false) := by show _ = _; unfold extRule; rw [hka]; rfl
  rw [HE.out]
  rw [hka] at CA; clear hka
  go_enter Tryz.func13, Tryz.ntmps13
  go_wp2_with fail
  refine (CA.out _ (HA.out.ext eb)).mono ?_; rintro _ w1 ⟨rfl, s1⟩
  go_wp2
  go_ret
  exact ⟨rfl, eb.trans s1⟩
 cases hkb : knownB b rb
 ·have HE : Hid (extRule a b ra rb = false) := by show _ = _; unfold extRule; rw [hka, hkb]; rfl
  rw [HE.out]
  rw [hka] at CA; rw [hkb] at CB; clear hka hkb
  go_enter Tryz.func13, Tryz.ntmps13
  go_wp2_with fail
  refine (CA.out _ (HA.out.ext eb)).mono ?_; rintro _ w1 ⟨rfl, s1⟩
  have e1 := eb.trans s1
  replace B1 := fun w' (e : Ext w1 w') => B1 w' (Ext.trans s1 e)
  go_wp2_with fail
  refine (CB.out _ (HB.out.ext e1)).mono ?_; rintro _ w2 ⟨rfl, s2⟩
  go_wp2
  go_ret
  exact ⟨rfl, e1.trans s2⟩
 have HVA := Lib.hid (known_desc hka); have HVB := Lib.hid (known_desc hkb)
 obtain ⟨i, hi, rfl⟩ := knownE_at hka
 obtain ⟨j, hj, rfl⟩ := knownE_at hkb
 have HE : Hid (extRule a b (i : Int) (j : Int) = ext a b i j) := by show _ = _; unfold extRule; rw [hka, hkb]; simp
 rw [HE.out]
 rw [hka] at CA; rw [hkb] at CB; clear hka hkb HE
 have C := Lib.hid (SX.out i j hi hj HVA.out HVB.out)
 generalize ext a b i j = z at *
 go_enter Tryz.func13, Tryz.ntmps13
 go_wp2_with fail
 refine (CA.out _ (HA.out.ext eb)).mono ?_; rintro _ w1 ⟨rfl, s1⟩
 have e1 := eb.trans s1
 replace B0 := fun w' (e : Ext w1 w') => B0 w' (Ext.trans s1 e)
 replace B1 := fun w' (e : Ext w1 w') => B1 w' (Ext.trans s1 e)
 go_wp2_with fail
 refine (CB.out _ (HB.out.ext e1)).mono ?_; rintro _ w2 ⟨rfl, s2⟩
 have e2 := e1.trans s2
 replace B0 := fun w' (e : Ext w2 w') => B0 w' (Ext.trans s2 e)
 replace B1 := fun w' (e : Ext w2 w') => B1 w' (Ext.trans s2 e)
 clear s1 s2 e1 eb CA CB
 go_wp2_with fail
 refine (C.out _ e2).mono ?_; rintro _ w3 ⟨rfl, s3⟩
 go_wp2
 go_ret
 exact ⟨rfl, e2.trans s3⟩
theorem iExtD_c (A A' : Option Addr) (a b : List DRule) (c c' : Nat) (w : World) (ha : RdD w A a c) (hb : RdD w A' b c') (hsa : ShortD a) (hwa : WfD a) (hsb : ShortD b) (hwb : WfD b) :
 Gives Tryz.prog 6 #[vdesc (.slice A a.length c), vdesc (.slice A' b.length c')] w (.bool (extD a b)) := by
 have eb := Ext_alloc (.cells #[.slice A' b.length c'] 26) (Ext_alloc (.cells #[.slice A a.length c] 26) (Ext.refl w))
 have BX := fun w' (e : Ext ((w.alloc (.cells #[.slice A a.length c] 26)).alloc (.cells #[.slice A' b.length c'] 26)) w') => boxed2 e
 have B0 := fun w' e => (BX w' e).1
 have B1 := fun w' e => (BX w' e).2.1
 clear BX
 have hla := ha.len; have hlb := hb.len
 have RA := Lib.hid (fun w => iRoot_c A a c w hla)
 have RB := Lib.hid (fun w => iRoot_c A' b c' w hlb)
 have CX : Hid (∀ w', Ext w w' → Gives Tryz.prog 12 #[vdesc (.slice A a.length c), .int .i64 ((a.length : Int) - 1), vdesc (.slice A' b.length c'), .int .i64 ((b.length : Int) - 1)] w' (.bool (extD a b))) :=
  fun w' e => iExtRule_c A A' a b c c' _ _ w' (ha.ext e) (hb.ext e) hsa hwa hsb hwb
 clear ha hb hsa hwa hsb hwb
 unfold vdesc at *
 generalize extD a b = z at *
 obtain ⟨W1, hW1⟩ : ∃ W1, W1 = ((w.alloc (.cells #[.slice A a.length c] 26)).alloc (.cells #[.slice A' b.length c'] 26)) := ⟨_, rfl⟩
 go_enter Tryz.func6, Tryz.ntmps6
 go_wp2_with fail
 refine wp_region_quiet_below (by kernel_rfl) (by kernel_rfl) ?_
 repeat (go_big_quiet_step ((first | (go_at_call 24; first | exact Calls.regrown_of (RA.out _) | exact Calls.regrown_of (RB.out _)) | (go_at_call 12; exact Calls.regrown_of (CX.out _ (eb.trans (Ext_regrown _ _ (Ext.refl _))))))))
 refine wpQuiet_nil ?_
 rintro w2 ⟨⟨nq, osq⟩, hq⟩
 have ew2 := ext_of_q hq
 clear hq nq osq
 go_wp2
 go_ret
 exact ⟨rfl, eb.trans ew2⟩
theorem iSame_c (A A' : Option Addr) (a b : List DRule) (c c' : Nat) (w : World) (ha : RdD w A a c) (hb : RdD w A' b c') (hsa : ShortD a) (hwa : WfD a) (hsb : ShortD b) (hwb : WfD b) :
 Gives Tryz.prog 7 #[vdesc (.slice A a.length c), vdesc (.slice A' b.length c')] w (.bool (sameF a b)) := by
 have eb := Ext_alloc (.cells #[.slice A' b.length c'] 26) (Ext_alloc (.cells #[.slice A a.length c] 26) (Ext.refl w))
 have BX := fun w' (e : Ext ((w.alloc (.cells #[.slice A a.length c] 26)).alloc (.cells #[.slice A' b.length c'] 26)) w') => boxed2 e
 have B0 := fun w' e => (BX w' e).1
 have B1 := fun w' e => (BX w' e).2.1
 clear BX
 have C1 := Lib.hid (fun w' (e : Ext w w') => iExtD_c A A' a b c c' w' (ha.ext e) (hb.ext e) hsa hwa hsb hwb)
 have C2 := Lib.hid (fun w' (e : Ext w w') => iExtD_c A' A b a c' c w' (hb.ext e) (ha.ext e) hsb hwb hsa hwa)
 clear ha hb hsa hwa hsb hwb
 unfold vdesc at *
 unfold sameF
 generalize extD a b = z at *
 generalize extD b a = y at *
 cases z
 ·go_enter Tryz.func7, Tryz.ntmps7
  go_wp2_with fail
  refine (C1.out _ eb).mono ?_; rintro _ w1 ⟨rfl, s1⟩
  go_wp2
  go_ret
  exact ⟨ret_bool (by simp), eb.trans s1⟩
 ·go_enter Tryz.func7, Tryz.ntmps7
  go_wp2_with fail
  refine (C1.out _ eb).mono ?_; rintro _ w1 ⟨rfl, s1⟩
  have e1 := eb.trans s1
  replace B0 := fun w' (e : Ext w1 w') => B0 w' (Ext.trans s1 e)
  replace B1 := fun w' (e : Ext w1 w') => B1 w' (Ext.trans s1 e)
  go_wp2_with fail
  refine (C2.out _ e1).mono ?_; rintro _ w2 ⟨rfl, s2⟩
  go_wp2
  go_ret
  exact ⟨ret_bool (by simp), e1.trans s2⟩
theorem Box.wrote {w w' : World} {g : Nat} {cs : Array Value} {T : TypeId} (h : Box w g cs T) {lo hi : Nat} (hw : Wrote lo hi w w') (hg : g < lo ∨ hi ≤ g) : Box w' g cs T := (hw.block g h.lt hg).trans h
theorem RuleOwn.wrote {w0 w w' : World} {p : RV} (h : RuleOwn w0 w p) {lo hi : Nat} (hw : Wrote lo hi w w') (hv : ∀ v ∈ p.vals, ∀ g, v.ownBlock = some g → g < lo ∨ hi ≤ g) : RuleOwn w0 w' p :=
 ⟨h.b.wrote hw (hv _ (by simp [RV.vals])), h.n.wrote hw (hv _ (by simp [RV.vals])), h.t.wrote hw (hv _ (by simp [RV.vals])), h.k.wrote hw (hv _ (by simp [RV.vals]))⟩
theorem OwnD.wrote {w0 w w' : World} {v : Value} {ps : List RV} (h : OwnD w0 w v ps) {lo hi : Nat} (hw : Wrote lo hi w w') (hv : ∀ u ∈ v :: ps.flatMap RV.vals, ∀ g, u.ownBlock = some g → g < lo ∨ hi ≤ g) : OwnD w0 w' v ps :=
 ⟨h.row.wrote hw (hv _ (by simp)), fun p hp => (h.each p hp).wrote hw (fun u hu => hv u (List.mem_cons_of_mem _ (List.mem_flatMap.2 ⟨p, hp, hu⟩))), h.far⟩
structure DMade (lo hi : Nat) (w : World) (v : Value) (ps : List RV) : Prop where
 own : ∃ w0 : World, w0.heap.size = lo ∧ OwnD w0 w v ps
 blk : ∀ u ∈ v :: ps.flatMap RV.vals, ∀ b, u.ownBlock = some b → lo ≤ b ∧ b < hi
theorem DMade.ext {lo hi : Nat} {w w' : World} {v : Value} {ps : List RV} (h : DMade lo hi w v ps) (e : Ext w w') : DMade lo hi w' v ps := ⟨let ⟨w0, h0, h1⟩ := h.own; ⟨w0, h0, h1.ext e⟩, h.blk⟩
theorem DMade.wrote {lo hi lo' hi' : Nat} {w w' : World} {v : Value} {ps : List RV} (h : DMade lo hi w v ps) (hw : Wrote lo' hi' w w') (hd : hi ≤ lo' ∨ hi' ≤ lo) : DMade lo hi w' v ps :=
 ⟨let ⟨w0, h0, h1⟩ := h.own; ⟨w0, h0, h1.wrote hw (fun u hu g hg => by have := h.blk u hu g hg; omega)⟩, h.blk⟩
theorem sum_le {α : Type} (f : α → Nat) (m : Nat) : ∀ l : List α, (∀ x ∈ l, f x ≤ m) → (l.map f).sum ≤ l.length * m
 | [], _ => by simp
 | a :: t, h => by
  have h1 := h a (List.mem_cons_self ..)
  have h2 := sum_le f m t (fun x hx => h x (List.mem_cons_of_mem _ hx))
  rw [List.map_cons, List.sum_cons, List.length_cons, Nat.add_mul]; omega
theorem SmR.sz {r : DRule} (h : SmR r) : szRl r ≤ 1200 := by
 have h1 := h.lens; have h2 := h.nm
 have h3 := sum_le ByteArray.size 60 r.names h.nms
 have h4 : r.names.length * 60 ≤ 16 * 60 := Nat.mul_le_mul_right 60 h1.2.1
 unfold szRl szStrs; omega
theorem SmD.sz {ds : List DRule} (h : SmD ds) : szD ds ≤ 100000 := by
 have h1 := sum_le szRl 1200 ds (fun r hr => (h.2 r hr).sz)
 have h2 : ds.length * 1200 ≤ 24 * 1200 := Nat.mul_le_mul_right 1200 h.1
 have h3 := h.1
 unfold szD; omega
theorem wf_i64 {x : Int} (h : -1000000 ≤ x ∧ x ≤ 1000000) : (Lit.int .i64 x).wf = true := by
 have h1 : IntKind.i64.min ≤ x := Int.le_trans (by decide : IntKind.i64.min ≤ -1000000) h.1
 have h2 : x ≤ IntKind.i64.max := Int.le_trans h.2 (by decide : (1000000 : Int) ≤ IntKind.i64.max)
 simp only [Lit.wf, decide_eq_true h1, decide_eq_true h2, Bool.and_self]
theorem SmR.wf {r : DRule} (h : SmR r) : WfR r :=
 ⟨by have := h.nm; omega, fun s hs => by have := h.nms s hs; omega, wf_i64 (by have := h.kind; omega), wf_i64 (by have := h.ints.1; omega), fun x hx => wf_i64 (by have := h.ints.2.1 x hx; omega), fun x hx => wf_i64 (by have := h.ints.2.2 x hx; omega)⟩
theorem SmD.wf {ds : List DRule} (h : SmD ds) : WfD ds := fun r hr => (h.2 r hr).wf
theorem SmD.short {ds : List DRule} (h : SmD ds) : ShortD ds := shortD_of (by have := h.sz; omega)
def ofB (n m : Nat) : Array Bool := ((List.range n).map m.testBit).toArray
section
variable {P : Program} {ops : Array Oper} {Q : Exit → Act → World → Prop} {md : Region.Mode} {S : World → Prop}
theorem tkH {i : Nat} (d : Option Nat) {oi : Oper} {v : Value} {fuel : Nat} {listed : Array Bool} (l' : Array Bool) {a : Act} {w : World} (hi : ops[i]? = some oi) (hd : oi.dst = d)
 (hb : (Region.noSelect ops && Region.free md ops listed i && (Region.ready md ops listed).contains i) = true) (hl : listed.setIfInBounds i true = l') (hS : S w) (hy : YieldsIf P ops S oi v a)
 (h : wpAnyH P md ops Q S fuel l' (a.put d v) w) (hQ : ∀ c a w, Q (.panic c) (a.put d v) w → Q (.panic c) a w := by exact fun _ _ _ h => h) : wpAnyH P md ops Q S (fuel + 1) listed a w := by
 subst hd; subst hl
 simp only [Bool.and_eq_true] at hb
 exact wpAnyH_take hi hb.1.1 hb.1.2 hb.2 hQ hy hS h
theorem oneH {i : Nat} (d : Option Nat) {o : Oper} {fuel : Nat} {listed : Array Bool} (l' : Array Bool) {a : Act} {w : World} (hr : Region.ready md ops listed = [i]) (ho : ops[i]? = some o) (hd : o.dst = d) (hl : listed.setIfInBounds i true = l')
 (h : ∀ K : Act → World → Prop, Shut (∀ a w, S w → wpAnyH P md ops Q S fuel l' a w → K a w) → if Region.wanted { o with dst := d } (yielded ops a.tmps) = true then Oper.wp P { o with dst := d } a w K Q else K (a.put d undef) w) : wpAnyH P md ops Q S (fuel + 1) listed a w := by
 subst hd; subst hl
 refine ⟨fun h0 => (by rw [h0] at hr; cases hr), fun j hj => ?_⟩
 rw [hr, List.mem_singleton] at hj
 subst hj
 exact wpOp_step ho (fun K' hK => h K' (fun a w hC hW => hK a w ⟨hC, hW⟩))
theorem wp_region_HD {id : Nat} {a : Act} {w : World} (l' : Array Bool) (hl : Array.replicate ops.size false = l') (hm : P.follows .mixedOrders = true) (h : wpAnyH P .any ops Q S ops.size l' a w.drew) : (Code.region id ops true).wp P Q a w := by
 subst hl; exact wp_region_held hm h
end
theorem eqNms_nil_r {L : List ByteArray} (h : L ≠ []) : eqNms L [] = false := by
 cases L with
 | nil => exact absurd rfl h
 | cons x t => rfl
theorem lenInt_ne {α : Type} {L : List α} (h : L ≠ []) : ((L.length : Int) == 0) = false := by
 cases L with
 | nil => exact absurd rfl h
 | cons x t => simp; omega
theorem lawExtensions_c (A : Option Addr) (l : List UInt8) (c : Nat) (w : World) (h : Rd0 vu8 w A l c) (hT : Tab w) :
 Gives Tryz.prog 3 #[.slice A l.length c] w (.bool true) := by
 have hl := h.len
 by_cases hL : (1048576 : Int) < (l.length : Int)
 ·have HD : Hid (decide ((1048576 : Int) < (l.length : Int)) = true) := by show _ = _; simpa using hL
  go_enter Tryz.func3, Tryz.ntmps3
  go_wp2_with fail
  refine (big_c _ _ _ _ h).mono ?_; rintro _ w1 ⟨rfl, he1⟩; rw [HD.out]
  go_wp2
  go_ret
  exact ⟨rfl, he1⟩
 have HD : Hid (decide ((1048576 : Int) < (l.length : Int)) = false) := by show _ = _; simpa using hL
 have hA : Bs w A l c := ⟨h, by omega⟩
 clear hL
 have HT := Lib.hid hT; clear hT
 have CD := Lib.hid (fun w hA => drawVersions_c A l c w hA)
 have CX := Lib.hid (fun w hA => drawExtR_c A l c w hA)
 unfold vdesc at CD CX
 go_enter Tryz.func3, Tryz.ntmps3
 go_wp2_with fail
 refine (big_c _ _ _ _ h).mono ?_; rintro _ w1 ⟨rfl, he1⟩; rw [HD.out]
 go_wp2_with fail
 refine (CD.out _ (hA.ext he1)).mono ?_; rintro _ w2 ⟨v1, v2, a, ps2, t, B1, n1, k1, B2, n2, k2, rfl, hsh, ⟨hMa, hSa, ha0, ha7⟩, hWI, K1, K2, ⟨hval, hsz⟩, hO, he2⟩
 have haok : descOk a = true := hMa.valid ha0 (by omega)
 have hLAW := wide_law haok hWI.wide (fun i hi x hx => (hSa.2 _ (List.getElem_mem hi)).ints.2.1 x hx |>.2)
 have hkk := (made_kinds hMa hSa).1
 have hs1 : SmD a := ⟨hSa.1, fun r hr => (hSa.2 r hr).sm (by obtain ⟨i, hi, rfl⟩ := List.getElem_of_mem hr; exact hkk i hi)⟩
 have hs2 : SmD (rulesOf ps2) := hWI.smD hSa hkk
 obtain ⟨A1, c1, hv1, r1⟩ := K1.rd
 obtain ⟨A2, c2, hv2, r2⟩ := K2.rd
 subst hv1; subst hv2
 have hpw : 9 ^ (a.length - 1) ≤ 9 ^ 6 := Nat.pow_le_pow_right (by decide) (by omega)
 have hsz' : szV t.val ≤ 53144100 := by omega
 obtain ⟨Ab, cb, Ai, ci, y1, y2, rv⟩ := hO.rd (by omega)
 have hnum : t.num = t.val.num := (VT.val_num t).symm
 obtain ⟨z1, z2⟩ := hsh
 rw [z1] at y1; rw [z2] at y2
 injection y1 with j1 j2 j3; injection y2 with j4 j5 j6
 subst j1; subst j2; subst j3; subst j4; subst j5; subst j6
 rw [hnum]
 generalize t.val = v at *
 generalize rulesOf ps2 = b at *
 obtain ⟨hbok, x1, x2, x3, x4, x5, x6, x7, x8⟩ := hLAW
 have hz1 := Lib.hid (show szD a ≤ 1048576 by have := hs1.sz; omega); have hz2 := Lib.hid (show szD b ≤ 1048576 by have := hs2.sz; omega)
 have hw1 := Lib.hid hs1.wf; have hw2 := Lib.hid hs2.wf; have hh1 := Lib.hid hs1.short; have hh2 := Lib.hid hs2.short
 have e2 := he1.trans he2
 have HA2 : Hid (Bs w2 A l c) := hA.ext e2
 obtain ⟨W3, hW3, BA, BB, BC, e3, _⟩ := boxes3' w2 #[.slice A1 a.length c1] #[.slice A2 b.length c2] #[.int .i64 v.num, .slice B1 v.bytes.length k1, .slice B2 v.items.length k2] 26 26 29
 have R1 := Lib.hid (r1.ext e3); have R2 := Lib.hid (r2.ext e3); have RV := Lib.hid (rv.ext e3)
 have q1 : ∀ w', Ext W3 w' → w'.cell? ⟨w2.heap.size, 0, none⟩ = some (Value.slice A1 a.length c1) := fun w' e => (BA.ext e).cell 0
 have q2 : ∀ w', Ext W3 w' → w'.cell? ⟨w2.heap.size + 1, 0, none⟩ = some (Value.slice A2 b.length c2) := fun w' e => (BB.ext e).cell 0
 have q3 : ∀ w', Ext W3 w' → w'.cell? ⟨w2.heap.size + 1 + 1, 0, none⟩ = some (Value.int .i64 v.num) := fun w' e => (BC.ext e).cell 0
 have q4 : ∀ w', Ext W3 w' → w'.cell? ⟨w2.heap.size + 1 + 1, 1, none⟩ = some (Value.slice B1 v.bytes.length k1) := fun w' e => (BC.ext e).cell 1
 have q5 : ∀ w', Ext W3 w' → w'.cell? ⟨w2.heap.size + 1 + 1, 2, none⟩ = some (Value.slice B2 v.items.length k2) := fun w' e => (BC.ext e).cell 2
 have E3 := Lib.hid (e2.trans e3)
 have HA3 : Hid (Bs W3 A l c) := HA2.out.ext e3
 have HT3 : Hid (∀ w', Ext W3 w' → Tab w') := fun w' e => HT.out.ext (E3.out.trans e)
 have hvz := Lib.hid hsz'
 have C1 : Hid (∀ w', Ext W3 w' → Calls Tryz.prog 6 #[vdesc (.slice A1 a.length c1), vdesc (.slice A1 a.length c1)] w' fun e w'' => e = .returned (.bool true) ∧ Ext w' w'') := fun w' e => by have := iExtD_c A1 A1 a a c1 c1 w' (R1.out.ext e) (R1.out.ext e) hh1.out hw1.out hh1.out hw1.out; rwa [x1] at this
 have C2 : Hid (∀ w', Ext W3 w' → Calls Tryz.prog 6 #[vdesc (.slice A1 a.length c1), vdesc (.slice A2 b.length c2)] w' fun e w'' => e = .returned (.bool true) ∧ Ext w' w'') := fun w' e => by have := iExtD_c A1 A2 a b c1 c2 w' (R1.out.ext e) (R2.out.ext e) hh1.out hw1.out hh2.out hw2.out; rwa [x2] at this
 have C3 : Hid (∀ w', Ext W3 w' → Calls Tryz.prog 7 #[vdesc (.slice A2 b.length c2), vdesc (.slice A2 b.length c2)] w' fun e w'' => e = .returned (.bool true) ∧ Ext w' w'') := fun w' e => by have := iSame_c A2 A2 b b c2 c2 w' (R2.out.ext e) (R2.out.ext e) hh2.out hw2.out hh2.out hw2.out; rwa [x3] at this
 have C4 : Hid (∀ w', Ext W3 w' → Calls Tryz.prog 7 #[vdesc (.slice A1 a.length c1), vdesc (.slice A2 b.length c2)] w' fun e w'' => e = .returned (.bool (extD b a)) ∧ Ext w' w'') := fun w' e => by have := iSame_c A1 A2 a b c1 c2 w' (R1.out.ext e) (R2.out.ext e) hh1.out hw1.out hh2.out hw2.out; rwa [x4] at this
 have C5 : Hid (∀ w', Ext W3 w' → Calls Tryz.prog 6 #[vdesc (.slice A2 b.length c2), vdesc (.slice A1 a.length c1)] w' fun e w'' => e = .returned (.bool (extD b a)) ∧ Ext w' w'') := fun w' e => iExtD_c A2 A1 b a c2 c1 w' (R2.out.ext e) (R1.out.ext e) hh2.out hw2.out hh1.out hw1.out
 have D1 : Hid (∀ w', Ext W3 w' → Calls Tryz.prog 14 #[vdesc (.slice A1 a.length c1), vdesc (.slice A2 b.length c2)] w' fun e w'' => ∃ v, e = .returned v ∧ OwnL vstr 9 w' w'' v (addT a b) ∧ Ext w' w'') := fun w' e => iAdded_c A1 A2 a b c1 c2 w' (R1.out.ext e) (R2.out.ext e) hh1.out hw1.out hh2.out hw2.out hz2.out (HT3.out w' e)
 have D2 : Hid (∀ w', Ext W3 w' → Calls Tryz.prog 14 #[vdesc (.slice A2 b.length c2), vdesc (.slice A1 a.length c1)] w' fun e w'' => ∃ v, e = .returned v ∧ OwnL vstr 9 w' w'' v [] ∧ Ext w' w'') := fun w' e => by have := iAdded_c A2 A1 b a c2 c1 w' (R2.out.ext e) (R1.out.ext e) hh2.out hw2.out hh1.out hw1.out hz1.out (HT3.out w' e); rwa [x5] at this
 have D3 : Hid (∀ w', Ext W3 w' → Calls Tryz.prog 14 #[vdesc (.slice A1 a.length c1), vdesc (.slice A1 a.length c1)] w' fun e w'' => ∃ v, e = .returned v ∧ OwnL vstr 9 w' w'' v [] ∧ Ext w' w'') := fun w' e => by have := iAdded_c A1 A1 a a c1 c1 w' (R1.out.ext e) (R1.out.ext e) hh1.out hw1.out hh1.out hw1.out hz1.out (HT3.out w' e); rwa [x6] at this
 have hal : a.length ≤ 1048576 := by have := hs1.1; omega
 have D4 : Hid (∀ w', Ext W3 w' → Calls Tryz.prog 16 #[vdesc (.slice A1 a.length c1), vdesc (.slice A1 a.length c1)] w' fun e w'' => ∃ v, e = .returned v ∧ OwnL vstr 9 w' w'' v (nmsOf a) ∧ Ext w' w'') := fun w' e => by have := iShared_c A1 A1 a a c1 c1 w' (R1.out.ext e) (R1.out.ext e) hal hal; rwa [x7] at this
 have D5 : Hid (∀ w', Ext W3 w' → Calls Tryz.prog 17 #[vdesc (.slice A1 a.length c1)] w' fun e w'' => ∃ v, e = .returned v ∧ OwnL vstr 9 w' w'' v (nmsOf a) ∧ Ext w' w'') := fun w' e => sDescNames_c A1 a c1 w' (R1.out.ext e) hal
 have HNL : Hid ((nmsOf a).length ≤ 1048576) := by show _ ≤ _; unfold nmsOf; simpa using hal
 have HAL : Hid ((addT a b).length ≤ 1048576) := addT_len hz2.out
 have CP := Lib.hid (fun w' (e : Ext W3 w') => sPrintFile_c A1 a c1 v B1 k1 B2 k2 w' (R1.out.ext e) hh1.out hw1.out (RV.out.ext e) (by have := hvz.out; omega))
 have CR := Lib.hid (fun (A4 : Option Addr) (f : List UInt8) (c4 : Nat) w' (e : Ext W3 w') hb => sReadFile_c A2 b c2 A4 f c4 w' (R2.out.ext e) hh2.out hw2.out hb)
 have CB := Lib.hid (fun f hf => read_back (a := a) (b := b) haok hbok x8 (v := v) (f := f) hf)
 have CE := Lib.hid (fun Ab' cb' Ai' ci' w' (e : Ext W3 w') (h1 : RdV w' v Ab' cb' Ai' ci') => sEqV_all v v Ab' cb' Ai' ci' B1 k1 B2 k2 w' h1 (RV.out.ext e))
 have HF4 := Lib.hid (fun f (hf : printF a v = some f) => (printF_yes hf).2.2.2.2)
 unfold PrOut at CP
 unfold vdesc vval at *
 generalize extD b a = z0 at *
 generalize hLL : addT a b = L at *
 generalize nmsOf a = N at *
 generalize hPF : printF a v = F at *
 have d1 := q1 _ (Ext.refl _); have d2 := q2 _ (Ext.refl _); have d3 := q3 _ (Ext.refl _); have d4 := q4 _ (Ext.refl _); have d5 := q5 _ (Ext.refl _)
 clear K1 K2 hs1 hs2 r1 r2 rv he1 he2 e2 CD BA BB BC e3 hA HA2 h HT haok hMa hSa ha0 ha7 hWI hval hsz hsz' hO hbok x1 x2 x3 x4 x5 x6 x7 x8 hkk hpw hnum z1 z2 hal hPF hLL
 go_wp2_with fail
 rw [← hW3.out]
 refine wp_region_quiet_below (by kernel_rfl) (by kernel_rfl) ?_
 repeat (go_big_quiet_step ((first | (go_at_call 6; first | with_reducible exact Calls.regrown_of (C1.out _ (Ext_regrown _ _ (Ext.refl _))) | with_reducible exact Calls.regrown_of (C2.out _ (Ext_regrown _ _ (Ext.refl _))) | with_reducible exact Calls.regrown_of (C5.out _ (Ext_regrown _ _ (Ext.refl _)))) | (go_at_call 7; first | with_reducible exact Calls.regrown_of (C3.out _ (Ext_regrown _ _ (Ext.refl _))) | with_reducible exact Calls.regrown_of (C4.out _ (Ext_regrown _ _ (Ext.refl _)))))))
 refine wpQuiet_nil ?_
 rintro w4 ⟨⟨nq, osq⟩, hq⟩
 have ew4 := ext_of_q hq
 clear hq nq osq
 have d1 := q1 _ ew4; have d2 := q2 _ ew4; have d3 := q3 _ ew4; have d4 := q4 _ ew4; have d5 := q5 _ ew4
 clear C1 C2 C3 C4 C5
 go_wp2_with fail
 refine (CP.out _ ew4).mono ?_; rintro _ w5 ⟨A4, n4, c4, rfl, ho4, hn4, e5⟩
 go_upto_if 54 with (fail)
 go_cut [2, 6, 7, 8, 9, 10] from 48 to 69 (fun s2 s6 s7 s8 s9 s10 wt => s2 = .bool false ∧ Ext W3 wt)
 case first =>
  cases hF : F with
  | none =>
   go_wp2
   go_meet
   exact ⟨rfl, ew4.trans e5⟩
  | some f =>
   rw [hF] at CB HF4 ho4 hn4
   have hf4 := HF4.out f rfl
   rw [Option.getD_some] at ho4 hn4
   subst hn4
   obtain ⟨A4', c4', hq4, r4⟩ := OwnL.rd ho4 (by omega)
   injection hq4 with j1 j2 j3
   subst j1; subst j3
   have e35 := ew4.trans e5
   have KR := CR.out A4 f c4 w5 e35 r4
   rw [CB.out f rfl] at KR
   replace KR := KR.mono (fun e' w'' h => RdOut.shape h)
   have hz0 : ((0 : Nat) : Int) = 0 := rfl
   dsimp only at KR
   rw [hz0] at KR
   have d1 := q1 _ e35; have d2 := q2 _ e35; have d3 := q3 _ e35; have d4 := q4 _ e35; have d5 := q5 _ e35
   have KRH := Lib.hid KR
   clear KR ho4 hz0
   go_wp2_with fail
   refine KRH.out.mono ?_; rintro _ w6 ⟨t6, P1, n6, k6, P2, n7, k7, rfl, hv6, hG6, e6⟩
   obtain ⟨Ab', cb', Ai', ci', y1, y2, rv6⟩ := hG6.out.rd (by have := hvz.out; omega)
   obtain ⟨g1, g2⟩ := hv6.out
   rw [g1] at y1; rw [g2] at y2
   injection y1 with j1 j2 j3; injection y2 with j4 j5 j6
   subst j1; subst j2; subst j3; subst j4; subst j5; subst j6
   obtain ⟨W7, hW7⟩ : ∃ W, Hid (W = w6.alloc (.cells #[.int .i64 v.num, .slice P1 v.bytes.length k6, .slice P2 v.items.length k7] 29)) := ⟨_, rfl⟩
   have e7 : Ext w6 W7 := by rw [hW7.out]; exact Ext_alloc _ (Ext.refl _)
   have b7 : Box W7 w6.heap.size #[.int .i64 v.num, .slice P1 v.bytes.length k6, .slice P2 v.items.length k7] 29 := by rw [hW7.out]; exact Box.new _ _ _
   have e37 := (e35.trans e6).trans e7
   have d3 := q3 _ e37; have d4 := q4 _ e37; have d5 := q5 _ e37
   have d6 : W7.cell? ⟨w6.heap.size, 0, none⟩ = some (Value.int .i64 v.num) := b7.cell 0
   have d7 : W7.cell? ⟨w6.heap.size, 1, none⟩ = some (Value.slice P1 v.bytes.length k6) := b7.cell 1
   have d8 : W7.cell? ⟨w6.heap.size, 2, none⟩ = some (Value.slice P2 v.items.length k7) := b7.cell 2
   have E37 := Lib.hid e37
   have C8 : Hid (∀ w', Ext W7 w' → Calls Tryz.prog 10 #[.agg #[.int .i64 v.num, .slice P1 v.bytes.length k6, .slice P2 v.items.length k7], .agg #[.int .i64 v.num, .slice B1 v.bytes.length k1, .slice B2 v.items.length k2]] w' fun e w'' => e = .returned (.bool true) ∧ Ext w' w'') := fun w' e => by have := CE.out P1 k6 P2 k7 w' (E37.out.trans e) ((rv6.ext e7).ext e) (by have := hvz.out; omega) (by have := hvz.out; omega); rwa [eqV_refl] at this
   clear CE hG6 hv6 rv6 e6 e7 e35 r4 b7 g1 g2
   rw [hW7.out] at d3 d4 d5 d6 d7 d8
   go_wp2_with fail
   rw [← hW7.out]
   refine (C8.out _ (Ext.refl _)).mono ?_; rintro _ w8 ⟨rfl, ew8⟩
   go_wp2
   go_meet
   exact ⟨rfl, E37.out.trans ew8⟩
 case rest =>
  obtain ⟨rfl, et⟩ := hcut
  clear d1 d2 d3 d4 d5 CP CR CB CE HF4 ho4 e5 ew4
  go_wp2_with fail
  refine (CX.out _ (HA3.out.ext et)).mono ?_; rintro _ wx ⟨u1, u2, a', b', i, k, rfl, hs1', hs2', K1', K2', hi, hk, ex⟩
  obtain ⟨U1, s1, hv1, r1'⟩ := K1'.rd
  obtain ⟨U2, s2, hv2, r2'⟩ := K2'.rd
  subst hv1; subst hv2
  obtain ⟨W9, hW9, BA9, BB9, e9, _⟩ := boxes2' wx #[.slice U1 a'.length s1] #[.slice U2 b'.length s2] 26 26
  have RA9 := Lib.hid (r1'.ext e9); have RB9 := Lib.hid (r2'.ext e9)
  have et9 := (et.trans ex).trans e9
  have p1 := fun w' (e : Ext W9 w') => q1 w' (et9.trans e)
  have p2 := fun w' (e : Ext W9 w') => q2 w' (et9.trans e)
  have p3 : ∀ w', Ext W9 w' → w'.cell? ⟨wx.heap.size, 0, none⟩ = some (Value.slice U1 a'.length s1) := fun w' e => (BA9.ext e).cell 0
  have p4 : ∀ w', Ext W9 w' → w'.cell? ⟨wx.heap.size + 1, 0, none⟩ = some (Value.slice U2 b'.length s2) := fun w' e => (BB9.ext e).cell 0
  have G1 : Hid (∀ w', Ext W9 w' → Gives Tryz.prog 12 #[vdesc (.slice U1 a'.length s1), .int .i64 i, vdesc (.slice U2 b'.length s2), .int .i64 k] w' (.bool (extRule a' b' i k))) := fun w' e => iExtRule_c U1 U2 a' b' s1 s2 i k w' (RA9.out.ext e) (RB9.out.ext e) hs1'.short hs1'.wf hs2'.short hs2'.wf
  have G2 : Hid (∀ w', Ext W9 w' → Gives Tryz.prog 13 #[vdesc (.slice U1 a'.length s1), .int .i64 i, vdesc (.slice U2 b'.length s2), .int .i64 k] w' (.bool (extRule a' b' i k))) := fun w' e => sExtRule_c U1 U2 a' b' s1 s2 i k w' (RA9.out.ext e) (RB9.out.ext e) hs1'.short hs1'.wf hs2'.short hs2'.wf
  unfold vdesc at G1 G2
  generalize extRule a' b' i k = z1 at *
  have ET9 := Lib.hid et9
  have EE : Hid (Ext w W9) := E3.out.trans et9
  clear hs1' hs2' K1' K2' hi hk ex r1' r2' BA9 BB9 e9 et et9 HA3
  go_wp2_with fail
  rw [← hW9.out]
  have eS : Ext W9 W9.drew := Ext_drew (Ext.refl _)
  by_cases hLe : L = []
  ·have hLc : L.length = 0 := by rw [hLe]; rfl
   refine wp_region_HD (S := fun w' => Ext W9 w') (ofB 44 0) (by kernel_rfl) (by kernel_rfl) ?_
   refine tkH (i := 0) (some 77) (v := ?_) (ofB 44 1) rfl rfl (by kernel_rfl) (by kernel_rfl) eS (Or.inl ⟨by rfl, ?_⟩) ?_
   rotate_left
   ·(intro w hSw; have hf := p3 w hSw; clear hSw; go_simp; try with_reducible rfl)
   try simp only [Act.put, lpa, lpz, lps]
   refine tkH (i := 1) (some 78) (v := ?_) (ofB 44 3) rfl rfl (by kernel_rfl) (by kernel_rfl) eS (Or.inl ⟨by rfl, ?_⟩) ?_
   rotate_left
   ·(intro w hSw; clear hSw; go_simp; try with_reducible rfl)
   try simp only [Act.put, lpa, lpz, lps]
   refine tkH (i := 2) (some 79) (v := ?_) (ofB 44 7) rfl rfl (by kernel_rfl) (by kernel_rfl) eS (Or.inl ⟨by rfl, ?_⟩) ?_
   rotate_left
   ·(intro w hSw; have hf := p4 w hSw; clear hSw; go_simp; try with_reducible rfl)
   try simp only [Act.put, lpa, lpz, lps]
   refine tkH (i := 3) (some 80) (v := ?_) (ofB 44 15) rfl rfl (by kernel_rfl) (by kernel_rfl) eS (Or.inl ⟨by rfl, ?_⟩) ?_
   rotate_left
   ·(intro w hSw; clear hSw; go_simp; try with_reducible rfl)
   try simp only [Act.put, lpa, lpz, lps]
   refine tkH (i := 5) (some 82) (v := ?_) (ofB 44 47) rfl rfl (by kernel_rfl) (by kernel_rfl) eS (Or.inl ⟨by rfl, ?_⟩) ?_
   rotate_left
   ·(intro w hSw; have hf := p3 w hSw; clear hSw; go_simp; try with_reducible rfl)
   try simp only [Act.put, lpa, lpz, lps]
   refine tkH (i := 6) (some 83) (v := ?_) (ofB 44 111) rfl rfl (by kernel_rfl) (by kernel_rfl) eS (Or.inl ⟨by rfl, ?_⟩) ?_
   rotate_left
   ·(intro w hSw; clear hSw; go_simp; try with_reducible rfl)
   try simp only [Act.put, lpa, lpz, lps]
   refine tkH (i := 7) (some 84) (v := ?_) (ofB 44 239) rfl rfl (by kernel_rfl) (by kernel_rfl) eS (Or.inl ⟨by rfl, ?_⟩) ?_
   rotate_left
   ·(intro w hSw; have hf := p4 w hSw; clear hSw; go_simp; try with_reducible rfl)
   try simp only [Act.put, lpa, lpz, lps]
   refine tkH (i := 8) (some 85) (v := ?_) (ofB 44 495) rfl rfl (by kernel_rfl) (by kernel_rfl) eS (Or.inl ⟨by rfl, ?_⟩) ?_
   rotate_left
   ·(intro w hSw; clear hSw; go_simp; try with_reducible rfl)
   try simp only [Act.put, lpa, lpz, lps]
   refine oneH (i := 4) (some 81) (ofB 44 511) (by kernel_rfl) rfl rfl (by kernel_rfl) (fun K hK => ?_)
   go_simp
   go_at_call 12
   refine (G1.out _ eS).mono ?_
   rintro _ w10 ⟨rfl, e10⟩
   replace eS := eS.trans e10
   refine Shut.out hK _ _ eS ?_
   try simp only [Act.put, lpa, lpz, lps]
   refine oneH (i := 9) (some 86) (ofB 44 1023) (by kernel_rfl) rfl rfl (by kernel_rfl) (fun K hK => ?_)
   go_simp
   go_at_call 13
   refine (G2.out _ eS).mono ?_
   rintro _ w11 ⟨rfl, e11⟩
   replace eS := eS.trans e11
   refine Shut.out hK _ _ eS ?_
   try simp only [Act.put, lpa, lpz, lps]
   refine tkH (i := 10) (some 87) (v := ?_) (ofB 44 2047) rfl rfl (by kernel_rfl) (by kernel_rfl) eS (Or.inl ⟨by rfl, ?_⟩) ?_
   rotate_left
   ·(intro w hSw; clear hSw; go_simp; try with_reducible rfl)
   try simp only [Act.put, lpa, lpz, lps]
   refine tkH (i := 11) (some 88) (v := ?_) (ofB 44 4095) rfl rfl (by kernel_rfl) (by kernel_rfl) eS (Or.inl ⟨by rfl, ?_⟩) ?_
   rotate_left
   ·(intro w hSw; clear hSw; go_simp; try with_reducible rfl)
   try simp only [Act.put, lpa, lpz, lps]
   refine tkH (i := 12) (some 89) (v := ?_) (ofB 44 8191) rfl rfl (by kernel_rfl) (by kernel_rfl) eS (Or.inl ⟨by rfl, ?_⟩) ?_
   rotate_left
   ·(intro w hSw; have hf := p1 w hSw; clear hSw; go_simp; try with_reducible rfl)
   try simp only [Act.put, lpa, lpz, lps]
   refine tkH (i := 13) (some 90) (v := ?_) (ofB 44 16383) rfl rfl (by kernel_rfl) (by kernel_rfl) eS (Or.inl ⟨by rfl, ?_⟩) ?_
   rotate_left
   ·(intro w hSw; have hf := p2 w hSw; clear hSw; go_simp; try with_reducible rfl)
   try simp only [Act.put, lpa, lpz, lps]
   refine oneH (i := 14) (some 91) (ofB 44 32767) (by kernel_rfl) rfl rfl (by kernel_rfl) (fun K hK => ?_)
   go_simp
   go_at_call 14
   refine (D1.out _ (ET9.out.trans eS)).mono ?_
   rintro _ w14 ⟨v14, rfl, o14, e14⟩
   obtain ⟨Q14, d14, rfl, r14⟩ := OwnL.rd o14 (by have := HAL.out; omega)
   replace eS := eS.trans e14
   refine Shut.out hK _ _ eS ?_
   try simp only [Act.put, lpa, lpz, lps]
   refine tkH (i := 15) (some 92) (v := ?_) (ofB 44 65535) rfl rfl (by kernel_rfl) (by kernel_rfl) eS (Or.inl ⟨by rfl, ?_⟩) ?_
   rotate_left
   ·(intro w hSw; clear hSw; go_simp; try with_reducible rfl)
   try simp only [Act.put, lpa, lpz, lps]
   refine tkH (i := 16) (some 93) (v := ?_) (ofB 44 131071) rfl rfl (by kernel_rfl) (by kernel_rfl) eS (Or.inl ⟨by rfl, ?_⟩) ?_
   rotate_left
   ·(intro w hSw; clear hSw; go_simp; try with_reducible rfl)
   try simp only [Act.put, lpa, lpz, lps]
   refine tkH (i := 17) (some 94) (v := ?_) (ofB 44 262143) rfl rfl (by kernel_rfl) (by kernel_rfl) eS (Or.inl ⟨by rfl, ?_⟩) ?_
   rotate_left
   ·(intro w hSw; clear hSw; go_simp; try with_reducible rfl)
   try simp only [Act.put, lpa, lpz, lps]
   refine tkH (i := 18) (some 95) (v := undef) (ofB 44 524287) rfl rfl (by kernel_rfl) (by kernel_rfl) eS (Or.inr ⟨by rfl, rfl⟩) ?_
   try simp only [Act.put, lpa, lpz, lps]
   refine tkH (i := 19) (some 96) (v := undef) (ofB 44 1048575) rfl rfl (by kernel_rfl) (by kernel_rfl) eS (Or.inr ⟨by rfl, rfl⟩) ?_
   try simp only [Act.put, lpa, lpz, lps]
   refine tkH (i := 21) (some 98) (v := undef) (ofB 44 3145727) rfl rfl (by kernel_rfl) (by kernel_rfl) eS (Or.inr ⟨by rfl, rfl⟩) ?_
   try simp only [Act.put, lpa, lpz, lps]
   refine tkH (i := 22) (some 99) (v := undef) (ofB 44 7340031) rfl rfl (by kernel_rfl) (by kernel_rfl) eS (Or.inr ⟨by rfl, rfl⟩) ?_
   try simp only [Act.put, lpa, lpz, lps]
   refine oneH (i := 20) (some 97) (ofB 44 8388607) (by kernel_rfl) rfl rfl (by kernel_rfl) (fun K hK => ?_)
   go_simp
   refine Shut.out hK _ _ eS ?_
   try simp only [Act.put, lpa, lpz, lps]
   refine oneH (i := 23) (some 100) (ofB 44 16777215) (by kernel_rfl) rfl rfl (by kernel_rfl) (fun K hK => ?_)
   go_simp
   refine Shut.out hK _ _ eS ?_
   try simp only [Act.put, lpa, lpz, lps]
   refine oneH (i := 24) (some 101) (ofB 44 33554431) (by kernel_rfl) rfl rfl (by kernel_rfl) (fun K hK => ?_)
   go_simp
   refine Shut.out hK _ _ eS ?_
   try simp only [Act.put, lpa, lpz, lps]
   refine tkH (i := 25) (some 102) (v := undef) (ofB 44 67108863) rfl rfl (by kernel_rfl) (by kernel_rfl) eS (Or.inr ⟨by rfl, rfl⟩) ?_
   try simp only [Act.put, lpa, lpz, lps]
   refine tkH (i := 26) (some 103) (v := ?_) (ofB 44 134217727) rfl rfl (by kernel_rfl) (by kernel_rfl) eS (Or.inl ⟨by rfl, ?_⟩) ?_
   rotate_left
   ·(intro w hSw; clear hSw; go_simp; try with_reducible rfl)
   try simp only [Act.put, lpa, lpz, lps]
   refine tkH (i := 27) (some 104) (v := ?_) (ofB 44 268435455) rfl rfl (by kernel_rfl) (by kernel_rfl) eS (Or.inl ⟨by rfl, ?_⟩) ?_
   rotate_left
   ·(intro w hSw; clear hSw; go_simp; try with_reducible rfl)
   try simp only [Act.put, lpa, lpz, lps]
   refine tkH (i := 28) (some 105) (v := ?_) (ofB 44 536870911) rfl rfl (by kernel_rfl) (by kernel_rfl) eS (Or.inl ⟨by rfl, ?_⟩) ?_
   rotate_left
   ·(intro w hSw; clear hSw; go_simp; try with_reducible rfl)
   try simp only [Act.put, lpa, lpz, lps]
   refine tkH (i := 29) (some 106) (v := ?_) (ofB 44 1073741823) rfl rfl (by kernel_rfl) (by kernel_rfl) eS (Or.inl ⟨by rfl, ?_⟩) ?_
   rotate_left
   ·(intro w hSw; have hf := p1 w hSw; clear hSw; go_simp; try with_reducible rfl)
   try simp only [Act.put, lpa, lpz, lps]
   refine tkH (i := 30) (some 107) (v := ?_) (ofB 44 2147483647) rfl rfl (by kernel_rfl) (by kernel_rfl) eS (Or.inl ⟨by rfl, ?_⟩) ?_
   rotate_left
   ·(intro w hSw; have hf := p1 w hSw; clear hSw; go_simp; try with_reducible rfl)
   try simp only [Act.put, lpa, lpz, lps]
   refine oneH (i := 31) (some 108) (ofB 44 4294967295) (by kernel_rfl) rfl rfl (by kernel_rfl) (fun K hK => ?_)
   go_simp
   go_at_call 14
   refine (D3.out _ (ET9.out.trans eS)).mono ?_
   rintro _ w31 ⟨v31, rfl, o31, e31⟩
   obtain ⟨Q31, d31, rfl, r31⟩ := OwnL.rd o31 (by have := (show ([] : List ByteArray).length ≤ 0 by simp); omega)
   replace eS := eS.trans e31
   refine Shut.out hK _ _ eS ?_
   try simp only [Act.put, lpa, lpz, lps]
   refine tkH (i := 32) (some 109) (v := ?_) (ofB 44 8589934591) rfl rfl (by kernel_rfl) (by kernel_rfl) eS (Or.inl ⟨by rfl, ?_⟩) ?_
   rotate_left
   ·(intro w hSw; clear hSw; go_simp; try with_reducible rfl)
   try simp only [Act.put, lpa, lpz, lps]
   refine tkH (i := 33) (some 110) (v := ?_) (ofB 44 17179869183) rfl rfl (by kernel_rfl) (by kernel_rfl) eS (Or.inl ⟨by rfl, ?_⟩) ?_
   rotate_left
   ·(intro w hSw; clear hSw; go_simp; try with_reducible rfl)
   try simp only [Act.put, lpa, lpz, lps]
   refine tkH (i := 34) (some 111) (v := ?_) (ofB 44 34359738367) rfl rfl (by kernel_rfl) (by kernel_rfl) eS (Or.inl ⟨by rfl, ?_⟩) ?_
   rotate_left
   ·(intro w hSw; clear hSw; go_simp; try with_reducible rfl)
   try simp only [Act.put, lpa, lpz, lps]
   refine tkH (i := 35) (some 112) (v := ?_) (ofB 44 68719476735) rfl rfl (by kernel_rfl) (by kernel_rfl) eS (Or.inl ⟨by rfl, ?_⟩) ?_
   rotate_left
   ·(intro w hSw; clear hSw; go_simp; try with_reducible rfl)
   try simp only [Act.put, lpa, lpz, lps]
   refine tkH (i := 36) (some 113) (v := ?_) (ofB 44 137438953471) rfl rfl (by kernel_rfl) (by kernel_rfl) eS (Or.inl ⟨by rfl, ?_⟩) ?_
   rotate_left
   ·(intro w hSw; have hf := p1 w hSw; clear hSw; go_simp; try with_reducible rfl)
   try simp only [Act.put, lpa, lpz, lps]
   refine tkH (i := 37) (some 114) (v := ?_) (ofB 44 274877906943) rfl rfl (by kernel_rfl) (by kernel_rfl) eS (Or.inl ⟨by rfl, ?_⟩) ?_
   rotate_left
   ·(intro w hSw; have hf := p1 w hSw; clear hSw; go_simp; try with_reducible rfl)
   try simp only [Act.put, lpa, lpz, lps]
   refine tkH (i := 39) (some 116) (v := ?_) (ofB 44 824633720831) rfl rfl (by kernel_rfl) (by kernel_rfl) eS (Or.inl ⟨by rfl, ?_⟩) ?_
   rotate_left
   ·(intro w hSw; have hf := p1 w hSw; clear hSw; go_simp; try with_reducible rfl)
   try simp only [Act.put, lpa, lpz, lps]
   refine oneH (i := 38) (some 115) (ofB 44 1099511627775) (by kernel_rfl) rfl rfl (by kernel_rfl) (fun K hK => ?_)
   go_simp
   go_at_call 16
   refine (D4.out _ (ET9.out.trans eS)).mono ?_
   rintro _ w38 ⟨v38, rfl, o38, e38⟩
   obtain ⟨Q38, d38, rfl, r38⟩ := OwnL.rd o38 (by have := HNL.out; omega)
   replace eS := eS.trans e38
   refine Shut.out hK _ _ eS ?_
   try simp only [Act.put, lpa, lpz, lps]
   refine oneH (i := 40) (some 117) (ofB 44 2199023255551) (by kernel_rfl) rfl rfl (by kernel_rfl) (fun K hK => ?_)
   go_simp
   go_at_call 17
   refine (D5.out _ (ET9.out.trans eS)).mono ?_
   rintro _ w40 ⟨v40, rfl, o40, e40⟩
   obtain ⟨Q40, d40, rfl, r40⟩ := OwnL.rd o40 (by have := HNL.out; omega)
   replace eS := eS.trans e40
   refine Shut.out hK _ _ eS ?_
   try simp only [Act.put, lpa, lpz, lps]
   refine oneH (i := 41) (some 118) (ofB 44 4398046511103) (by kernel_rfl) rfl rfl (by kernel_rfl) (fun K hK => ?_)
   go_simp
   go_at_call 15
   refine (sameTexts_c Q38 Q40 N N d38 d40 _ ((r38.ext e40).1) r40.1).mono ?_
   rintro _ w41 ⟨rfl, e41⟩
   rw [eqNms_refl]
   replace eS := eS.trans e41
   refine Shut.out hK _ _ eS ?_
   try simp only [Act.put, lpa, lpz, lps]
   refine tkH (i := 42) (some 119) (v := ?_) (ofB 44 8796093022207) rfl rfl (by kernel_rfl) (by kernel_rfl) eS (Or.inl ⟨by rfl, ?_⟩) ?_
   rotate_left
   ·(intro w hSw; clear hSw; go_simp; try with_reducible rfl)
   try simp only [Act.put, lpa, lpz, lps]
   refine tkH (i := 43) (some 2) (v := ?_) (ofB 44 17592186044415) rfl rfl (by kernel_rfl) (by kernel_rfl) eS (Or.inl ⟨by rfl, ?_⟩) ?_
   rotate_left
   ·(intro w hSw; clear hSw; go_simp; try with_reducible rfl)
   try simp only [Act.put, lpa, lpz, lps]
   refine wpAnyH_done (by kernel_rfl) ?_ _
   go_wp2
   go_ret
   exact ⟨rfl, EE.out.trans eS⟩
  ·have hLc : ((L.length : Int) == 0) = false := lenInt_ne hLe
   refine wp_region_HD (S := fun w' => Ext W9 w') (ofB 44 0) (by kernel_rfl) (by kernel_rfl) ?_
   refine tkH (i := 0) (some 77) (v := ?_) (ofB 44 1) rfl rfl (by kernel_rfl) (by kernel_rfl) eS (Or.inl ⟨by rfl, ?_⟩) ?_
   rotate_left
   ·(intro w hSw; have hf := p3 w hSw; clear hSw; go_simp; try with_reducible rfl)
   try simp only [Act.put, lpa, lpz, lps]
   refine tkH (i := 1) (some 78) (v := ?_) (ofB 44 3) rfl rfl (by kernel_rfl) (by kernel_rfl) eS (Or.inl ⟨by rfl, ?_⟩) ?_
   rotate_left
   ·(intro w hSw; clear hSw; go_simp; try with_reducible rfl)
   try simp only [Act.put, lpa, lpz, lps]
   refine tkH (i := 2) (some 79) (v := ?_) (ofB 44 7) rfl rfl (by kernel_rfl) (by kernel_rfl) eS (Or.inl ⟨by rfl, ?_⟩) ?_
   rotate_left
   ·(intro w hSw; have hf := p4 w hSw; clear hSw; go_simp; try with_reducible rfl)
   try simp only [Act.put, lpa, lpz, lps]
   refine tkH (i := 3) (some 80) (v := ?_) (ofB 44 15) rfl rfl (by kernel_rfl) (by kernel_rfl) eS (Or.inl ⟨by rfl, ?_⟩) ?_
   rotate_left
   ·(intro w hSw; clear hSw; go_simp; try with_reducible rfl)
   try simp only [Act.put, lpa, lpz, lps]
   refine tkH (i := 5) (some 82) (v := ?_) (ofB 44 47) rfl rfl (by kernel_rfl) (by kernel_rfl) eS (Or.inl ⟨by rfl, ?_⟩) ?_
   rotate_left
   ·(intro w hSw; have hf := p3 w hSw; clear hSw; go_simp; try with_reducible rfl)
   try simp only [Act.put, lpa, lpz, lps]
   refine tkH (i := 6) (some 83) (v := ?_) (ofB 44 111) rfl rfl (by kernel_rfl) (by kernel_rfl) eS (Or.inl ⟨by rfl, ?_⟩) ?_
   rotate_left
   ·(intro w hSw; clear hSw; go_simp; try with_reducible rfl)
   try simp only [Act.put, lpa, lpz, lps]
   refine tkH (i := 7) (some 84) (v := ?_) (ofB 44 239) rfl rfl (by kernel_rfl) (by kernel_rfl) eS (Or.inl ⟨by rfl, ?_⟩) ?_
   rotate_left
   ·(intro w hSw; have hf := p4 w hSw; clear hSw; go_simp; try with_reducible rfl)
   try simp only [Act.put, lpa, lpz, lps]
   refine tkH (i := 8) (some 85) (v := ?_) (ofB 44 495) rfl rfl (by kernel_rfl) (by kernel_rfl) eS (Or.inl ⟨by rfl, ?_⟩) ?_
   rotate_left
   ·(intro w hSw; clear hSw; go_simp; try with_reducible rfl)
   try simp only [Act.put, lpa, lpz, lps]
   refine oneH (i := 4) (some 81) (ofB 44 511) (by kernel_rfl) rfl rfl (by kernel_rfl) (fun K hK => ?_)
   go_simp
   go_at_call 12
   refine (G1.out _ eS).mono ?_
   rintro _ w10 ⟨rfl, e10⟩
   replace eS := eS.trans e10
   refine Shut.out hK _ _ eS ?_
   try simp only [Act.put, lpa, lpz, lps]
   refine oneH (i := 9) (some 86) (ofB 44 1023) (by kernel_rfl) rfl rfl (by kernel_rfl) (fun K hK => ?_)
   go_simp
   go_at_call 13
   refine (G2.out _ eS).mono ?_
   rintro _ w11 ⟨rfl, e11⟩
   replace eS := eS.trans e11
   refine Shut.out hK _ _ eS ?_
   try simp only [Act.put, lpa, lpz, lps]
   refine tkH (i := 10) (some 87) (v := ?_) (ofB 44 2047) rfl rfl (by kernel_rfl) (by kernel_rfl) eS (Or.inl ⟨by rfl, ?_⟩) ?_
   rotate_left
   ·(intro w hSw; clear hSw; go_simp; try with_reducible rfl)
   try simp only [Act.put, lpa, lpz, lps]
   refine tkH (i := 11) (some 88) (v := ?_) (ofB 44 4095) rfl rfl (by kernel_rfl) (by kernel_rfl) eS (Or.inl ⟨by rfl, ?_⟩) ?_
   rotate_left
   ·(intro w hSw; clear hSw; go_simp; try with_reducible rfl)
   try simp only [Act.put, lpa, lpz, lps]
   refine tkH (i := 12) (some 89) (v := ?_) (ofB 44 8191) rfl rfl (by kernel_rfl) (by kernel_rfl) eS (Or.inl ⟨by rfl, ?_⟩) ?_
   rotate_left
   ·(intro w hSw; have hf := p1 w hSw; clear hSw; go_simp; try with_reducible rfl)
   try simp only [Act.put, lpa, lpz, lps]
   refine tkH (i := 13) (some 90) (v := ?_) (ofB 44 16383) rfl rfl (by kernel_rfl) (by kernel_rfl) eS (Or.inl ⟨by rfl, ?_⟩) ?_
   rotate_left
   ·(intro w hSw; have hf := p2 w hSw; clear hSw; go_simp; try with_reducible rfl)
   try simp only [Act.put, lpa, lpz, lps]
   refine oneH (i := 14) (some 91) (ofB 44 32767) (by kernel_rfl) rfl rfl (by kernel_rfl) (fun K hK => ?_)
   go_simp
   go_at_call 14
   refine (D1.out _ (ET9.out.trans eS)).mono ?_
   rintro _ w14 ⟨v14, rfl, o14, e14⟩
   obtain ⟨Q14, d14, rfl, r14⟩ := OwnL.rd o14 (by have := HAL.out; omega)
   replace eS := eS.trans e14
   refine Shut.out hK _ _ eS ?_
   try simp only [Act.put, lpa, lpz, lps]
   refine tkH (i := 15) (some 92) (v := ?_) (ofB 44 65535) rfl rfl (by kernel_rfl) (by kernel_rfl) eS (Or.inl ⟨by rfl, ?_⟩) ?_
   rotate_left
   ·(intro w hSw; clear hSw; go_simp; try with_reducible rfl)
   try simp only [Act.put, lpa, lpz, lps]
   refine tkH (i := 16) (some 93) (v := ?_) (ofB 44 131071) rfl rfl (by kernel_rfl) (by kernel_rfl) eS (Or.inl ⟨by rfl, ?_⟩) ?_
   rotate_left
   ·(intro w hSw; clear hSw; go_simp; try with_reducible rfl)
   try simp only [Act.put, lpa, lpz, lps]
   refine tkH (i := 17) (some 94) (v := ?_) (ofB 44 262143) rfl rfl (by kernel_rfl) (by kernel_rfl) eS (Or.inl ⟨by rfl, ?_⟩) ?_
   rotate_left
   ·(intro w hSw; clear hSw; go_simp; try with_reducible rfl)
   try simp only [Act.put, lpa, lpz, lps]
   refine tkH (i := 18) (some 95) (v := ?_) (ofB 44 524287) rfl rfl (by kernel_rfl) (by kernel_rfl) eS (Or.inl ⟨by rfl, ?_⟩) ?_
   rotate_left
   ·(intro w hSw; have hf := p1 w hSw; clear hSw; go_simp; try with_reducible rfl)
   try simp only [Act.put, lpa, lpz, lps]
   refine tkH (i := 19) (some 96) (v := ?_) (ofB 44 1048575) rfl rfl (by kernel_rfl) (by kernel_rfl) eS (Or.inl ⟨by rfl, ?_⟩) ?_
   rotate_left
   ·(intro w hSw; have hf := p2 w hSw; clear hSw; go_simp; try with_reducible rfl)
   try simp only [Act.put, lpa, lpz, lps]
   refine tkH (i := 21) (some 98) (v := ?_) (ofB 44 3145727) rfl rfl (by kernel_rfl) (by kernel_rfl) eS (Or.inl ⟨by rfl, ?_⟩) ?_
   rotate_left
   ·(intro w hSw; have hf := p2 w hSw; clear hSw; go_simp; try with_reducible rfl)
   try simp only [Act.put, lpa, lpz, lps]
   refine tkH (i := 22) (some 99) (v := ?_) (ofB 44 7340031) rfl rfl (by kernel_rfl) (by kernel_rfl) eS (Or.inl ⟨by rfl, ?_⟩) ?_
   rotate_left
   ·(intro w hSw; have hf := p1 w hSw; clear hSw; go_simp; try with_reducible rfl)
   try simp only [Act.put, lpa, lpz, lps]
   refine oneH (i := 20) (some 97) (ofB 44 8388607) (by kernel_rfl) rfl rfl (by kernel_rfl) (fun K hK => ?_)
   go_simp
   go_at_call 14
   refine (D1.out _ (ET9.out.trans eS)).mono ?_
   rintro _ w20 ⟨v20, rfl, o20, e20⟩
   obtain ⟨Q20, d20, rfl, r20⟩ := OwnL.rd o20 (by have := HAL.out; omega)
   replace eS := eS.trans e20
   refine Shut.out hK _ _ eS ?_
   try simp only [Act.put, lpa, lpz, lps]
   refine oneH (i := 23) (some 100) (ofB 44 16777215) (by kernel_rfl) rfl rfl (by kernel_rfl) (fun K hK => ?_)
   go_simp
   go_at_call 14
   refine (D2.out _ (ET9.out.trans eS)).mono ?_
   rintro _ w23 ⟨v23, rfl, o23, e23⟩
   obtain ⟨Q23, d23, rfl, r23⟩ := OwnL.rd o23 (by have := (show ([] : List ByteArray).length ≤ 0 by simp); omega)
   replace eS := eS.trans e23
   refine Shut.out hK _ _ eS ?_
   try simp only [Act.put, lpa, lpz, lps]
   refine oneH (i := 24) (some 101) (ofB 44 33554431) (by kernel_rfl) rfl rfl (by kernel_rfl) (fun K hK => ?_)
   go_simp
   go_at_call 15
   refine (sameTexts_c Q20 Q23 L [] d20 d23 _ ((r20.ext e23).1) r23.1).mono ?_
   rintro _ w24 ⟨rfl, e24⟩
   rw [eqNms_nil_r hLe]
   replace eS := eS.trans e24
   refine Shut.out hK _ _ eS ?_
   try simp only [Act.put, lpa, lpz, lps]
   refine tkH (i := 25) (some 102) (v := ?_) (ofB 44 67108863) rfl rfl (by kernel_rfl) (by kernel_rfl) eS (Or.inl ⟨by rfl, ?_⟩) ?_
   rotate_left
   ·(intro w hSw; clear hSw; go_simp; try with_reducible rfl)
   try simp only [Act.put, lpa, lpz, lps]
   refine tkH (i := 26) (some 103) (v := ?_) (ofB 44 134217727) rfl rfl (by kernel_rfl) (by kernel_rfl) eS (Or.inl ⟨by rfl, ?_⟩) ?_
   rotate_left
   ·(intro w hSw; clear hSw; go_simp; try with_reducible rfl)
   try simp only [Act.put, lpa, lpz, lps]
   refine tkH (i := 27) (some 104) (v := ?_) (ofB 44 268435455) rfl rfl (by kernel_rfl) (by kernel_rfl) eS (Or.inl ⟨by rfl, ?_⟩) ?_
   rotate_left
   ·(intro w hSw; clear hSw; go_simp; try with_reducible rfl)
   try simp only [Act.put, lpa, lpz, lps]
   refine tkH (i := 28) (some 105) (v := ?_) (ofB 44 536870911) rfl rfl (by kernel_rfl) (by kernel_rfl) eS (Or.inl ⟨by rfl, ?_⟩) ?_
   rotate_left
   ·(intro w hSw; clear hSw; go_simp; try with_reducible rfl)
   try simp only [Act.put, lpa, lpz, lps]
   refine tkH (i := 29) (some 106) (v := ?_) (ofB 44 1073741823) rfl rfl (by kernel_rfl) (by kernel_rfl) eS (Or.inl ⟨by rfl, ?_⟩) ?_
   rotate_left
   ·(intro w hSw; have hf := p1 w hSw; clear hSw; go_simp; try with_reducible rfl)
   try simp only [Act.put, lpa, lpz, lps]
   refine tkH (i := 30) (some 107) (v := ?_) (ofB 44 2147483647) rfl rfl (by kernel_rfl) (by kernel_rfl) eS (Or.inl ⟨by rfl, ?_⟩) ?_
   rotate_left
   ·(intro w hSw; have hf := p1 w hSw; clear hSw; go_simp; try with_reducible rfl)
   try simp only [Act.put, lpa, lpz, lps]
   refine oneH (i := 31) (some 108) (ofB 44 4294967295) (by kernel_rfl) rfl rfl (by kernel_rfl) (fun K hK => ?_)
   go_simp
   go_at_call 14
   refine (D3.out _ (ET9.out.trans eS)).mono ?_
   rintro _ w31 ⟨v31, rfl, o31, e31⟩
   obtain ⟨Q31, d31, rfl, r31⟩ := OwnL.rd o31 (by have := (show ([] : List ByteArray).length ≤ 0 by simp); omega)
   replace eS := eS.trans e31
   refine Shut.out hK _ _ eS ?_
   try simp only [Act.put, lpa, lpz, lps]
   refine tkH (i := 32) (some 109) (v := ?_) (ofB 44 8589934591) rfl rfl (by kernel_rfl) (by kernel_rfl) eS (Or.inl ⟨by rfl, ?_⟩) ?_
   rotate_left
   ·(intro w hSw; clear hSw; go_simp; try with_reducible rfl)
   try simp only [Act.put, lpa, lpz, lps]
   refine tkH (i := 33) (some 110) (v := ?_) (ofB 44 17179869183) rfl rfl (by kernel_rfl) (by kernel_rfl) eS (Or.inl ⟨by rfl, ?_⟩) ?_
   rotate_left
   ·(intro w hSw; clear hSw; go_simp; try with_reducible rfl)
   try simp only [Act.put, lpa, lpz, lps]
   refine tkH (i := 34) (some 111) (v := ?_) (ofB 44 34359738367) rfl rfl (by kernel_rfl) (by kernel_rfl) eS (Or.inl ⟨by rfl, ?_⟩) ?_
   rotate_left
   ·(intro w hSw; clear hSw; go_simp; try with_reducible rfl)
   try simp only [Act.put, lpa, lpz, lps]
   refine tkH (i := 35) (some 112) (v := ?_) (ofB 44 68719476735) rfl rfl (by kernel_rfl) (by kernel_rfl) eS (Or.inl ⟨by rfl, ?_⟩) ?_
   rotate_left
   ·(intro w hSw; clear hSw; go_simp; try with_reducible rfl)
   try simp only [Act.put, lpa, lpz, lps]
   refine tkH (i := 36) (some 113) (v := ?_) (ofB 44 137438953471) rfl rfl (by kernel_rfl) (by kernel_rfl) eS (Or.inl ⟨by rfl, ?_⟩) ?_
   rotate_left
   ·(intro w hSw; have hf := p1 w hSw; clear hSw; go_simp; try with_reducible rfl)
   try simp only [Act.put, lpa, lpz, lps]
   refine tkH (i := 37) (some 114) (v := ?_) (ofB 44 274877906943) rfl rfl (by kernel_rfl) (by kernel_rfl) eS (Or.inl ⟨by rfl, ?_⟩) ?_
   rotate_left
   ·(intro w hSw; have hf := p1 w hSw; clear hSw; go_simp; try with_reducible rfl)
   try simp only [Act.put, lpa, lpz, lps]
   refine tkH (i := 39) (some 116) (v := ?_) (ofB 44 824633720831) rfl rfl (by kernel_rfl) (by kernel_rfl) eS (Or.inl ⟨by rfl, ?_⟩) ?_
   rotate_left
   ·(intro w hSw; have hf := p1 w hSw; clear hSw; go_simp; try with_reducible rfl)
   try simp only [Act.put, lpa, lpz, lps]
   refine oneH (i := 38) (some 115) (ofB 44 1099511627775) (by kernel_rfl) rfl rfl (by kernel_rfl) (fun K hK => ?_)
   go_simp
   go_at_call 16
   refine (D4.out _ (ET9.out.trans eS)).mono ?_
   rintro _ w38 ⟨v38, rfl, o38, e38⟩
   obtain ⟨Q38, d38, rfl, r38⟩ := OwnL.rd o38 (by have := HNL.out; omega)
   replace eS := eS.trans e38
   refine Shut.out hK _ _ eS ?_
   try simp only [Act.put, lpa, lpz, lps]
   refine oneH (i := 40) (some 117) (ofB 44 2199023255551) (by kernel_rfl) rfl rfl (by kernel_rfl) (fun K hK => ?_)
   go_simp
   go_at_call 17
   refine (D5.out _ (ET9.out.trans eS)).mono ?_
   rintro _ w40 ⟨v40, rfl, o40, e40⟩
   obtain ⟨Q40, d40, rfl, r40⟩ := OwnL.rd o40 (by have := HNL.out; omega)
   replace eS := eS.trans e40
   refine Shut.out hK _ _ eS ?_
   try simp only [Act.put, lpa, lpz, lps]
   refine oneH (i := 41) (some 118) (ofB 44 4398046511103) (by kernel_rfl) rfl rfl (by kernel_rfl) (fun K hK => ?_)
   go_simp
   go_at_call 15
   refine (sameTexts_c Q38 Q40 N N d38 d40 _ ((r38.ext e40).1) r40.1).mono ?_
   rintro _ w41 ⟨rfl, e41⟩
   rw [eqNms_refl]
   replace eS := eS.trans e41
   refine Shut.out hK _ _ eS ?_
   try simp only [Act.put, lpa, lpz, lps]
   refine tkH (i := 42) (some 119) (v := ?_) (ofB 44 8796093022207) rfl rfl (by kernel_rfl) (by kernel_rfl) eS (Or.inl ⟨by rfl, ?_⟩) ?_
   rotate_left
   ·(intro w hSw; clear hSw; go_simp; try with_reducible rfl)
   try simp only [Act.put, lpa, lpz, lps]
   refine tkH (i := 43) (some 2) (v := ?_) (ofB 44 17592186044415) rfl rfl (by kernel_rfl) (by kernel_rfl) eS (Or.inl ⟨by rfl, ?_⟩) ?_
   rotate_left
   ·(intro w hSw; clear hSw; go_simp; try with_reducible rfl)
   try simp only [Act.put, lpa, lpz, lps]
   refine wpAnyH_done (by kernel_rfl) ?_ _
   go_wp2
   go_ret
   exact ⟨rfl, EE.out.trans eS⟩
end Go.Proofs.YtpmcofmdjckijaaGreatDoor
namespace Go.Proofs.YtpmcofmdjckijaaGreatDoor
open Go.RowKit
noncomputable def laidWorld (os : Os) : World :=
 { World.holding Tryz.prog os ⟨#[], #[], []⟩ with heap := ((((World.holding Tryz.prog os ⟨#[], #[], []⟩).heap.modify 1 fun
  | .cells _ t frozen => .cells #[.int .u8 0, .int .u8 1, .int .u8 28, .int .u8 2, .int .u8 29, .int .u8 14, .int .u8 24, .int .u8 3, .int .u8 30, .int .u8 22, .int .u8 20, .int .u8 15, .int .u8 25, .int .u8 17, .int .u8 4, .int .u8 8, .int .u8 31, .int .u8 27, .int .u8 13, .int .u8 23, .int .u8 21, .int .u8 19, .int .u8 16, .int .u8 7, .int .u8 26, .int .u8 12, .int .u8 18, .int .u8 6, .int .u8 11, .int .u8 5, .int .u8 10, .int .u8 9] t frozen
  | o => o).modify 2 fun
  | .cells _ t frozen => .cells #[.int .u8 0, .int .u8 1, .int .u8 56, .int .u8 2, .int .u8 57, .int .u8 49, .int .u8 28, .int .u8 3, .int .u8 61, .int .u8 58, .int .u8 42, .int .u8 50, .int .u8 38, .int .u8 29, .int .u8 17, .int .u8 4, .int .u8 62, .int .u8 47, .int .u8 59, .int .u8 36, .int .u8 45, .int .u8 43, .int .u8 51, .int .u8 22, .int .u8 53, .int .u8 39, .int .u8 33, .int .u8 30, .int .u8 24, .int .u8 18, .int .u8 12, .int .u8 5, .int .u8 63, .int .u8 55, .int .u8 48, .int .u8 27, .int .u8 60, .int .u8 41, .int .u8 37, .int .u8 16, .int .u8 46, .int .u8 35, .int .u8 44, .int .u8 21, .int .u8 52, .int .u8 32, .int .u8 23, .int .u8 11, .int .u8 54, .int .u8 26, .int .u8 40, .int .u8 15, .int .u8 34, .int .u8 20, .int .u8 31, .int .u8 10, .int .u8 25, .int .u8 14, .int .u8 19, .int .u8 9, .int .u8 13, .int .u8 8, .int .u8 7, .int .u8 6] t frozen
  | o => o).modify 0 fun
  | .cells _ t frozen => .cells #[.int .u64 1, .int .u64 10, .int .u64 100, .int .u64 1000, .int .u64 10000, .int .u64 100000, .int .u64 1000000, .int .u64 10000000, .int .u64 100000000, .int .u64 1000000000, .int .u64 10000000000, .int .u64 100000000000, .int .u64 1000000000000, .int .u64 10000000000000, .int .u64 100000000000000, .int .u64 1000000000000000, .int .u64 10000000000000000, .int .u64 100000000000000000, .int .u64 1000000000000000000, .int .u64 10000000000000000000] t frozen
  | o => o) }
def doorList : List (String × DataW Unit) := [("math/bits.deBruijn32tab", Rows.laid_math_bits_deBruijn32tab), ("math/bits.deBruijn64tab", Rows.laid_math_bits_deBruijn64tab), ("internal/strconv.uint64pow10", Rows.laid_internal_strconv_uint64pow10)]
theorem gTab : Tryz.prog.globalNamed "internal/strconv.uint64pow10" = some 0 := by kernel_rfl
theorem gTabType : (Tryz.prog.globals[0]?).map (·.type) = some 128 := by kernel_rfl
theorem cellsTab : Tryz.prog.cellsOf 128 = 20 := by kernel_rfl
theorem cellsU64 : Tryz.prog.cellsOf 122 = 1 := by kernel_rfl
theorem tab_of_laid {W : World} (h : laidMetH Tryz.prog doorList W) : Tab W := by
 have h0 : laidMet Tryz.prog doorList W := h
 have h1 : laidMet Tryz.prog [("internal/strconv.uint64pow10", Lib.tabData .u64 Lib.pow10Tab)] W := h0.tail.tail
 exact Lib.tabIs_of_head (rest := []) gTab gTabType Tryz.underlying128 Tryz.underlying122 cellsU64 cellsTab h1
end Go.Proofs.YtpmcofmdjckijaaGreatDoor
