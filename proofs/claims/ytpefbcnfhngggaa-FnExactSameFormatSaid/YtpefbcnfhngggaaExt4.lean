/- (*comparison).compare of the program: the walk. -/
import Derived.Test.YtpefbcnfhngggaaExtInv
import Derived.Deep.RegionHeld3
namespace Go.Proofs.Ytpefbcnfhngggaa
open Go.RowKit Go.Sort
open Go.Maps (Keyed)

/-- two descriptions that are compared, the comparison's block, its memo's block, a world ahead of both -/
structure Cmp where
  A : Option Addr
  a : List DRule
  c : Nat
  A' : Option Addr
  b : List DRule
  c' : Nat
  g : Nat
  bm : Nat
  w0 : World
structure Cmp.Ok (X : Cmp) : Prop where
  ra : RdD X.w0 X.A X.a X.c
  rb : RdD X.w0 X.A' X.b X.c'
  va : descOk X.a = true
  vb : descOk X.b = true
  sa : ShortD X.a
  sb : ShortD X.b
  bm : X.w0.heap.size ≤ X.bm
  ne : X.bm ≠ X.g
/-- the memo is right -/
structure Cmp.St (X : Cmp) (w : World) (S : List (Nat × Nat)) : Prop where
  e0 : Ext X.w0 w
  box : Box w X.g #[.slice X.A X.a.length X.c, .slice X.A' X.b.length X.c', .map (some X.bm)] 55
  memo : Memo Try.prog 79 4 (ext X.a X.b) X.a.length X.b.length w X.bm S
/-- the memo alone has turned, by pairs with a first number below n -/
def Moved (X : Cmp) (w : World) (S : List (Nat × Nat)) (n : Nat) (w' : World) : Prop := w.grownBy w' (some X.bm) ∧ ∃ S', X.St w' S' ∧ (∀ p ∈ S, p ∈ S') ∧ ∀ p ∈ S', p ∈ S ∨ p.1 < n
theorem Cmp.St.ext' {X : Cmp} {w w' : World} {S : List (Nat × Nat)} (h : X.St w S) (e : Ext w w') : X.St w' S := ⟨h.e0.trans e, h.box.ext e, h.memo.kept (grown_ext e none) (by simp)⟩
theorem Cmp.St.bm_lt {X : Cmp} {w : World} {S : List (Nat × Nat)} (h : X.St w S) : X.bm < w.heap.size := h.memo.block
theorem Moved.start {X : Cmp} {w w' : World} {S : List (Nat × Nat)} {n : Nat} (h : X.St w S) (e : Ext w w') : Moved X w S n w' := ⟨grown_ext e _, S, h.ext' e, fun _ hp => hp, fun _ hp => .inl hp⟩
theorem Moved.ext {X : Cmp} {w w1 w' : World} {S : List (Nat × Nat)} {n : Nat} (h : Moved X w S n w1) (e : Ext w1 w') : Moved X w S n w' := by
  obtain ⟨hg, S', h1, h2, h3⟩ := h
  exact ⟨hg.trans (grown_ext e _), S', h1.ext' e, h2, h3⟩
theorem Moved.from {X : Cmp} {w w1 w' : World} {S : List (Nat × Nat)} {n : Nat} (e : Ext w w1) (h : Moved X w1 S n w') : Moved X w S n w' := ⟨(grown_ext e _).trans h.1, h.2⟩
/-- T holds of w -/
def AtW (T : World → Prop) (w : World) : Prop := T w
/-- the contract of .rule at rule i of a -/
def RuleC (X : Cmp) (i : Nat) : Prop := ∀ j, j < X.b.length → ∀ w S, X.St w S →
  Calls Try.prog 30 #[.pointer (some ⟨X.g, 0, none⟩), .int .i64 (i : Int), .int .i64 (j : Int)] w fun e w' => e = .returned (.bool (ext X.a X.b i j)) ∧ Moved X w S (i + 1) w'
theorem Moved.step {X : Cmp} {w w1 w' : World} {S S1 : List (Nat × Nat)} {n m : Nat} (h : Moved X w S n w1) (hS : ∀ p ∈ S1, p ∈ S ∨ p.1 < n) (hS2 : ∀ p ∈ S, p ∈ S1) (h1 : Moved X w1 S1 m w') (hm : m ≤ n) : Moved X w S n w' := by
  obtain ⟨hg, S', g1, g2, g3⟩ := h1
  refine ⟨h.1.trans hg, S', g1, fun p hp => g2 p (hS2 p hp), fun p hp => ?_⟩
  rcases g3 p hp with h5 | h5
  · exact hS p h5
  · exact .inr (by omega)
set_option maxRecDepth 100000 in
set_option maxHeartbeats 8000000 in
theorem cmp_c (X : Cmp) (ok : X.Ok) (i j : Nat) (hi : i < X.a.length) (hj : j < X.b.length) (p q : DRule) (hp : X.a[i] = p) (hq : X.b[j] = q) (Ab : Option Addr) (cb : Nat) (An : Option Addr) (cn : Nat) (At : Option Addr) (ct : Nat) (Ak : Option Addr) (ck : Nat) (Ab' : Option Addr) (cb' : Nat) (An' : Option Addr) (cn' : Nat) (At' : Option Addr) (ct' : Nat) (Ak' : Option Addr) (ck' : Nat) (hSp : RdS X.w0 p Ab cb An cn At ct Ak ck) (hSq : RdS X.w0 q Ab' cb' An' cn' At' ct' Ak' ck') (IH : ∀ i', i' < i → RuleC X i') (w : World) (S : List (Nat × Nat)) (hst : X.St w S) :
    Calls Try.prog 49 #[.pointer (some ⟨X.g, 0, none⟩), vrule p (.slice Ab p.bytes.length cb) (.slice An p.names.length cn) (.slice At p.tags.length ct) (.slice Ak p.kids.length ck), vrule q (.slice Ab' q.bytes.length cb') (.slice An' q.names.length cn') (.slice At' q.tags.length ct') (.slice Ak' q.kids.length ck')] w fun e w' => e = .returned (.bool (ext X.a X.b i j)) ∧ Moved X w S i w' := by
  have hstep := ext_step ok.va i j hi hj
  have fp := ruleFacts ok.va i hi; have fq := ruleFacts ok.vb j hj
  have sp := ok.sa _ (List.getElem_mem hi); have sq := ok.sb _ (List.getElem_mem hj)
  have ka := kd_int ok.va i hi; have kb := kd_int ok.vb j hj
  have la := kd_lt ok.va i hi; have lb := kd_lt ok.vb j hj
  rw [hp] at hstep fp sp ka la
  rw [hq] at hstep fq sq kb lb
  have KA := Lib.hid ka; have KB := Lib.hid kb
  have IR : Hid (∀ t, t < p.kids.length → ∀ u, u < q.kids.length → ∀ w1 S1, X.St w1 S1 → Calls Try.prog 30 #[.pointer (some ⟨X.g, 0, none⟩), .int .i64 (kd p t : Int), .int .i64 (kd q u : Int)] w1 fun e w' => e = .returned (.bool (ext X.a X.b (kd p t) (kd q u))) ∧ Moved X w1 S1 (kd p t + 1) w') :=
    fun t ht u hu w1 S1 h => IH _ (la t ht) _ (by have := lb u hu; omega) w1 S1 h
  have HLA := Lib.hid la
  clear IH hp hq ka kb la lb
  have eb1 := Ext_alloc (.cells #[.string p.nm, .int .i64 p.kind, .int .i64 p.size, .bool p.little, .slice Ab p.bytes.length cb, .slice An p.names.length cn, .slice At p.tags.length ct, .slice Ak p.kids.length ck] 73) (Ext.refl w)
  have eb := Ext_alloc (.cells #[.string q.nm, .int .i64 q.kind, .int .i64 q.size, .bool q.little, .slice Ab' q.bytes.length cb', .slice An' q.names.length cn', .slice At' q.tags.length ct', .slice Ak' q.kids.length ck'] 73) eb1
  have hbm := hst.bm_lt
  obtain ⟨W1, hW1⟩ : ∃ W1, W1 = ((w.alloc (.cells #[.string p.nm, .int .i64 p.kind, .int .i64 p.size, .bool p.little, .slice Ab p.bytes.length cb, .slice An p.names.length cn, .slice At p.tags.length ct, .slice Ak p.kids.length ck] 73)).alloc (.cells #[.string q.nm, .int .i64 q.kind, .int .i64 q.size, .bool q.little, .slice Ab' q.bytes.length cb', .slice An' q.names.length cn', .slice At' q.tags.length ct', .slice Ak' q.kids.length ck'] 73)) := ⟨_, rfl⟩
  have bp : Box W1 w.heap.size #[.string p.nm, .int .i64 p.kind, .int .i64 p.size, .bool p.little, .slice Ab p.bytes.length cb, .slice An p.names.length cn, .slice At p.tags.length ct, .slice Ak p.kids.length ck] 73 := by rw [hW1]; exact (Box.new w _ _).ext (Ext_alloc _ (Ext.refl _))
  have bq : Box W1 (w.heap.size + 1) #[.string q.nm, .int .i64 q.kind, .int .i64 q.size, .bool q.little, .slice Ab' q.bytes.length cb', .slice An' q.names.length cn', .slice At' q.tags.length ct', .slice Ak' q.kids.length ck'] 73 := by rw [hW1]; have := Box.new (w.alloc (.cells #[.string p.nm, .int .i64 p.kind, .int .i64 p.size, .bool p.little, .slice Ab p.bytes.length cb, .slice An p.names.length cn, .slice At p.tags.length ct, .slice Ak p.kids.length ck] 73)) #[.string q.nm, .int .i64 q.kind, .int .i64 q.size, .bool q.little, .slice Ab' q.bytes.length cb', .slice An' q.names.length cn', .slice At' q.tags.length ct', .slice Ak' q.kids.length ck'] 73; rwa [show (w.alloc (.cells #[.string p.nm, .int .i64 p.kind, .int .i64 p.size, .bool p.little, .slice Ab p.bytes.length cb, .slice An p.names.length cn, .slice At p.tags.length ct, .slice Ak p.kids.length ck] 73)).heap.size = w.heap.size + 1 by simp] at this
  obtain ⟨Tt, hTt⟩ : ∃ Tt : World → Prop, AtW Tt = Moved X W1 S i := ⟨_, rfl⟩
  have HT := Lib.hid (fun w' => iff_of_eq (congrFun hTt w'))
  clear hTt
  have e01 : Ext w W1 := by rw [hW1]; exact eb
  have t0 : AtW Tt W1 := (HT.out _).2 (Moved.start (hst.ext' e01) (Ext.refl _))
  have FIN : Hid (∀ w', AtW Tt w' → Moved X w S i w') := fun w' h => Moved.from e01 ((HT.out _).1 h)
  have tE : Hid (∀ w1 w', AtW Tt w1 → Ext w1 w' → AtW Tt w') := fun w1 w' h e => (HT.out _).2 (((HT.out _).1 h).ext e)
  have tG : ∀ w1 d os, AtW Tt w1 → AtW Tt (grow (redrawn w1 d) os) := fun w1 d os h => tE.out w1 _ h (Ext_regrown d os (Ext.refl _))
  have tW : Hid (∀ w', AtW Tt w' → Ext X.w0 w') := fun w' h => by obtain ⟨_, S', h1, _⟩ := (HT.out _).1 h; exact h1.e0
  have P0 : ∀ w', AtW Tt w' → ∀ k, w'.cell? ⟨w.heap.size, k, none⟩ = #[.string p.nm, .int .i64 p.kind, .int .i64 p.size, .bool p.little, .slice Ab p.bytes.length cb, .slice An p.names.length cn, .slice At p.tags.length ct, .slice Ak p.kids.length ck][k]? := fun w' h => (bp.moved ((HT.out _).1 h).1 (by intro hh; injection hh with hh; omega)).cell
  have Q0 : ∀ w', AtW Tt w' → ∀ k, w'.cell? ⟨w.heap.size + 1, k, none⟩ = #[.string q.nm, .int .i64 q.kind, .int .i64 q.size, .bool q.little, .slice Ab' q.bytes.length cb', .slice An' q.names.length cn', .slice At' q.tags.length ct', .slice Ak' q.kids.length ck'][k]? := fun w' h => (bq.moved ((HT.out _).1 h).1 (by intro hh; injection hh with hh; omega)).cell
  have tR : Hid (∀ t, t < p.kids.length → ∀ u, u < q.kids.length → ∀ w1, AtW Tt w1 → Calls Try.prog 30 #[.pointer (some ⟨X.g, 0, none⟩), .int .i64 (kd p t : Int), .int .i64 (kd q u : Int)] w1 fun e w' => e = .returned (.bool (ext X.a X.b (kd p t) (kd q u))) ∧ AtW Tt w') := by
    intro t ht u hu w1 h
    have hm := (HT.out _).1 h
    obtain ⟨_, S1, h1, h2, h3⟩ := hm
    refine (IR.out t ht u hu w1 S1 h1).mono ?_
    rintro e w' ⟨he, hM⟩
    exact ⟨he, (HT.out _).2 (Moved.step ((HT.out _).1 h) h3 h2 hM (HLA.out t ht))⟩
  have CX : Hid (∀ w', AtW Tt w' → Gives Try.prog 61 #[vrule q (.slice Ab' q.bytes.length cb') (.slice An' q.names.length cn') (.slice At' q.tags.length ct') (.slice Ak' q.kids.length ck')] w' (.iface (extT q.kind) (vrule q (.slice Ab' q.bytes.length cb') (.slice An' q.names.length cn') (.slice At' q.tags.length ct') (.slice Ak' q.kids.length ck')))) := fun w' _ => extenderOf_c q Ab' cb' An' cn' At' ct' Ak' ck' w'
  have CS : Hid (∀ w', AtW Tt w' → Gives Try.prog (extF' q.kind) #[vrule q (.slice Ab' q.bytes.length cb') (.slice An' q.names.length cn') (.slice At' q.tags.length ct') (.slice Ak' q.kids.length ck'), vrule p (.slice Ab p.bytes.length cb) (.slice An p.names.length cn) (.slice At p.tags.length ct) (.slice Ak p.kids.length ck)] w' (.bool (selfB p q))) := fun w' h => self_c q p Ab' cb' An' cn' At' ct' Ak' ck' Ab cb An cn At ct Ak ck w' (hSq.ext (tW.out w' h)) (hSp.ext (tW.out w' h)) sq sp
  have CI : Hid (∀ t w', AtW Tt w' → Gives Try.prog 62 #[vrule q (.slice Ab' q.bytes.length cb') (.slice An' q.names.length cn') (.slice At' q.tags.length ct') (.slice Ak' q.kids.length ck'), .int .i64 t] w' (.int .i64 (tagI q.tags t))) := fun t w' h => iTagIx_c q Ab' cb' An' cn' At' ct' Ak' ck' t w' (hSq.ext (tW.out w' h))
  have HSP := Lib.hid hSp; have HSQ := Lib.hid hSq
  have hpk := hSp.k.len; have hpt := hSp.t.len; have hqk := hSq.k.len; have hqt := hSq.t.len
  clear IR bp bq e01 hst hSp hSq sp sq HT hbm HLA
  unfold vrule at *
  have hZ := Lib.hid hstep; clear hstep
  generalize ext X.a X.b i j = Z at *
  generalize p.little = lp at *
  generalize q.little = lq at *
  have hb0 : Try.prog = Try.prog := rfl
  clear hb0
  rw [hW1] at t0
  by_cases hk : p.kind = q.kind
  · have hp7 : q.kind = 7 → p.kids.length = p.tags.length + 1 := fun h => (fp.cho (by omega)).1
    have hq7 : q.kind = 7 → q.kids.length = q.tags.length + 1 := fun h => (fq.cho h).1
    have CN := Lib.hid (fun h => hZ.out.trans (cmp_self_no fp fq hk (ext X.a X.b) h))
    have C7 := Lib.hid (fun h h7 => cmp_cho fp fq hk (ext X.a X.b) h h7)
    have C0 := Lib.hid (fun h h7 => cmp_other fp fq hk (ext X.a X.b) h h7)
    have h1 : (p.kind != q.kind) = false := by simp [hk]
    have HZZ := Lib.hid hZ.out
    clear hk hZ fp fq
    have KP := Lib.hid (fun t (ht : t < p.kids.length) => HSP.out.k.at t ht)
    have KQ := Lib.hid (fun t (ht : t < q.kids.length) => HSQ.out.k.at t ht)
    have TP := Lib.hid (fun t (ht : t < p.tags.length) => HSP.out.t.at t ht)
    have FINR : Hid (∀ w', AtW Tt w' → Moved X w S i w') := FIN.out
    generalize hSB : selfB p q = z at *
    clear hSB
    have KK : ∀ k : Int, (q.kind == k) = decide (q.kind = k) := fun k => by rw [Bool.eq_iff_iff]; simp
    cases z
    · have HE := Lib.hid (CN.out rfl); clear CN C7 C0 KK
      go_enter Try.func49, Try.ntmps49
      go_wp2_with fail
      refine wp_region_quiet_below (by kernel_rfl) (by kernel_rfl) ?_
      repeat (first
        | (go_big_quiet_want; refine quiet_invoke (.tmp 17) (.tmp 18) _ _ rfl _ _ _ _ rfl rfl (fun w => ext_method q.kind _ w) (fun args w => ext_called q.kind args w) (.bool false) ?_ ?_; (· rintro _ ⟨pp, rfl⟩; exact Calls.regrown_of (CS.out _ (by first | assumption | exact tG _ _ _ t0))); (simp only [Act.put, List.setIfInBounds_toArray, List.set_cons_zero, List.set_cons_succ]); go_big_quiet_on)
        | go_big_quiet_step ((go_at_call 61; exact Calls.regrown_of (CX.out _ (by first | assumption | exact tG _ _ _ t0)))))
      refine wpQuiet_nil ?_
      rintro w2 ⟨⟨nq, osq⟩, hq⟩
      have ew2 := ext_of_q hq
      clear hq nq osq
      have ht2 : AtW Tt w2 := tE.out _ _ t0 ew2
      go_wp2
      go_ret
      exact ⟨ret_bool HE.out.symm, FIN.out _ ht2⟩
    by_cases h7 : q.kind = 7
    · obtain ⟨hZ7, hin⟩ := C7.out rfl h7
      have HE := Lib.hid (HZZ.out.trans hZ7)
      have HIN := Lib.hid hin
      have k7 : (q.kind == 7) = true := by rw [KK]; exact decide_eq_true h7
      have HCP := Lib.hid (hp7 h7); have HCQ := Lib.hid (hq7 h7)
      clear hZ7 hin CN C7 C0 KK h7 hp7 hq7
      go_enter Try.func49, Try.ntmps49
      go_wp2_with fail
      refine wp_region_quiet_below (by kernel_rfl) (by kernel_rfl) ?_
      repeat (first
        | (go_big_quiet_want; refine quiet_invoke (.tmp 17) (.tmp 18) _ _ rfl _ _ _ _ rfl rfl (fun w => ext_method q.kind _ w) (fun args w => ext_called q.kind args w) (.bool true) ?_ ?_; (· rintro _ ⟨pp, rfl⟩; exact Calls.regrown_of (CS.out _ (by first | assumption | exact tG _ _ _ t0))); (simp only [Act.put, List.setIfInBounds_toArray, List.set_cons_zero, List.set_cons_succ]); go_big_quiet_on)
        | go_big_quiet_step ((go_at_call 61; exact Calls.regrown_of (CX.out _ (by first | assumption | exact tG _ _ _ t0)))))
      refine wpQuiet_nil ?_
      rintro w2 ⟨⟨nq, osq⟩, hq⟩
      have ew2 := ext_of_q hq
      clear hq nq osq
      have ht2 : AtW Tt w2 := tE.out _ _ t0 ew2
      clear t0
      go_wp2
      go_loopw [28] (fun ix wr => ∃ k : Nat, k ≤ p.tags.length ∧ ix = .int .i64 k ∧ Hid (∀ t, t < k → ext X.a X.b (kd p (t + 1)) (kd q (tagN q.tags (p.tags.getD t 0) + 1)) = true) ∧ AtW Tt wr) (fun ix _ => p.tags.length - (intOf ix).toNat)
      case atStart => exact ⟨0, by omega, rfl, (fun t ht => by omega), ht2⟩
      case round =>
        clear ht2
        obtain ⟨k, hk, rfl, hn, ht⟩ := hrel
        by_cases hlt : k < p.tags.length
        · have hg : p.tags.getD k 0 = p.tags[k] := by simp [hlt]
          have hT := HIN.out k hlt
          have YES : Hid (ext X.a X.b (kd p (k + 1)) (kd q (tagN q.tags (p.tags.getD k 0) + 1)) = true → ∀ t, t < k + 1 → ext X.a X.b (kd p (t + 1)) (kd q (tagN q.tags (p.tags.getD t 0) + 1)) = true) := fun h => upTo (f := fun t => ext X.a X.b (kd p (t + 1)) (kd q (tagN q.tags (p.tags.getD t 0) + 1))) hn.out h
          have NO : Hid (ext X.a X.b (kd p (k + 1)) (kd q (tagN q.tags (p.tags.getD k 0) + 1)) = false → Z = false) := fun h => HE.out.trans (by rw [allN_no (f := fun t => ext X.a X.b (kd p (t + 1)) (kd q (tagN q.tags (p.tags.getD t 0) + 1))) hlt h]; rfl)
          rw [hg] at YES NO hT
          have hk1 : k + 1 < p.kids.length := by have := HCP.out; omega
          have hu1 : tagN q.tags p.tags[k] + 1 < q.kids.length := by have := HCQ.out; omega
          have C1 : Hid (∀ w', AtW Tt w' → Gives Try.prog 62 #[.agg #[.string q.nm, .int .i64 q.kind, .int .i64 q.size, .bool lq, .slice Ab' q.bytes.length cb', .slice An' q.names.length cn', .slice At' q.tags.length ct', .slice Ak' q.kids.length ck'], .int .i64 p.tags[k]] w' (.int .i64 (tagN q.tags p.tags[k] : Int))) := fun w' h => by
            have := CI.out p.tags[k] w' h
            unfold tagI at this
            rw [if_pos hT] at this
            exact this
          obtain ⟨bt, ot, hAt, hbt, hct⟩ := TP.out k hlt
          subst hAt
          obtain ⟨bk, ok, hAk, hbk, hck⟩ := KP.out (k + 1) hk1
          subst hAk
          obtain ⟨bk', ok', hAk', hbk', hck'⟩ := KQ.out _ hu1
          subst hAk'
          rw [KA.out _ hk1] at hck
          rw [KB.out _ hu1] at hck'
          have R1 := Lib.hid (tR.out (k + 1) hk1 _ hu1)
          replace hct := fun w' (h : AtW Tt w') => hct w' (tW.out w' h); replace hck := fun w' (h : AtW Tt w') => hck w' (tW.out w' h); replace hck' := fun w' (h : AtW Tt w') => hck' w' (tW.out w' h)
          clear hg hn
          have d1 : decide ((k : Int) < (p.tags.length : Int)) = true := decide_eq_true (by omega)
          generalize p.tags[k] = x at *
          have hT2 : tagN q.tags x + 1 < 9223372036854775807 := by omega
          generalize tagN q.tags x = y at *
          generalize kd p (k + 1) = u at *
          generalize kd q (y + 1) = v at *
          generalize ext X.a X.b u v = r at *
          have w1 : IntKind.i64.wrap ((k : Int) + 1) = (k : Int) + 1 := IntWalk.i64_in _ (by omega)
          have w2' : IntKind.i64.wrap ((y : Int) + 1) = (y : Int) + 1 := IntWalk.i64_in _ (by omega)
          have b1 : (0 : Int) ≤ (k : Int) + 1 := by omega
          have b2 : ((k : Int) + 1) < (p.kids.length : Int) := by omega
          have b3 : (0 : Int) ≤ (y : Int) + 1 := by omega
          have b4 : ((y : Int) + 1) < (q.kids.length : Int) := by omega
          go_wp2_with fail
          go_region_held3 (fun w' => AtW Tt w') (first | assumption | exact tE.out _ _ (by assumption) (Ext_drew (Ext.refl _)) | exact tE.out _ _ (by assumption) (by assumption)) (first
            | (go_at_call 62; refine (C1.out _ (by assumption)).mono ?_; rintro _ w3 ⟨rfl, s3⟩)
            | (go_at_call 30; refine (R1.out _ (by assumption)).mono ?_; rintro _ w4 ⟨rfl, h4⟩))
          have h5 : AtW Tt w4 := by assumption
          cases r
          · have HF := Lib.hid (NO.out rfl); clear YES NO
            go_wp2
            go_ret
            exact ⟨ret_bool HF.out.symm, FIN.out _ h5⟩
          · have HF := Lib.hid (YES.out rfl); clear YES NO
            go_wp2
            go_roundw
            case rel => exact ⟨k + 1, by omega, by go_num, HF, h5⟩
            case measure => simp [intOf]; omega
        · have HF : Hid (Z = ext X.a X.b (kd p 0) (kd q 0)) := HE.out.trans (by rw [allN_yes (f := fun t => ext X.a X.b (kd p (t + 1)) (kd q (tagN q.tags (p.tags.getD t 0) + 1))) (fun t ht => hn.out t (by omega)), Bool.true_and])
          have hk1 : 0 < p.kids.length := by have := HCP.out; omega
          have hu1 : 0 < q.kids.length := by have := HCQ.out; omega
          obtain ⟨bk, ok, hAk, hbk, hck⟩ := KP.out 0 hk1
          subst hAk
          obtain ⟨bk', ok', hAk', hbk', hck'⟩ := KQ.out 0 hu1
          subst hAk'
          rw [KA.out _ hk1] at hck
          rw [KB.out _ hu1] at hck'
          have R1 := Lib.hid (tR.out 0 hk1 _ hu1)
          replace hck := fun w' (h : AtW Tt w') => hck w' (tW.out w' h); replace hck' := fun w' (h : AtW Tt w') => hck' w' (tW.out w' h)
          simp only [Nat.add_zero] at hck hck'
          have d1 : decide ((k : Int) < (p.tags.length : Int)) = false := decide_eq_false (by omega)
          generalize kd p 0 = u at *
          generalize kd q 0 = v at *
          generalize ext X.a X.b u v = r at *
          go_wp2_with fail
          go_region_held3 (fun w' => AtW Tt w') (first | assumption | exact tE.out _ _ (by assumption) (Ext_drew (Ext.refl _)) | exact tE.out _ _ (by assumption) (by assumption)) (first
            | (go_at_call 30; refine (R1.out _ (by assumption)).mono ?_; rintro _ w4 ⟨rfl, h4⟩))
          have h5 : AtW Tt w4 := by assumption
          go_wp2
          go_ret
          exact ⟨ret_bool HF.out.symm, FIN.out _ h5⟩
    · obtain ⟨hZ0, hkl⟩ := C0.out rfl h7
      have HE := Lib.hid (HZZ.out.trans hZ0)
      have HKL := Lib.hid hkl
      have k7 : (q.kind == 7) = false := by rw [KK]; exact decide_eq_false h7
      clear hZ0 hkl CN C7 C0 KK h7 hp7 hq7
      go_enter Try.func49, Try.ntmps49
      go_wp2_with fail
      refine wp_region_quiet_below (by kernel_rfl) (by kernel_rfl) ?_
      repeat (first
        | (go_big_quiet_want; refine quiet_invoke (.tmp 17) (.tmp 18) _ _ rfl _ _ _ _ rfl rfl (fun w => ext_method q.kind _ w) (fun args w => ext_called q.kind args w) (.bool true) ?_ ?_; (· rintro _ ⟨pp, rfl⟩; exact Calls.regrown_of (CS.out _ (by first | assumption | exact tG _ _ _ t0))); (simp only [Act.put, List.setIfInBounds_toArray, List.set_cons_zero, List.set_cons_succ]); go_big_quiet_on)
        | go_big_quiet_step ((go_at_call 61; exact Calls.regrown_of (CX.out _ (by first | assumption | exact tG _ _ _ t0)))))
      refine wpQuiet_nil ?_
      rintro w2 ⟨⟨nq, osq⟩, hq⟩
      have ew2 := ext_of_q hq
      clear hq nq osq
      have ht2 : AtW Tt w2 := tE.out _ _ t0 ew2
      clear t0
      go_wp2
      go_loopw [64] (fun ix wr => ∃ k : Nat, k ≤ q.kids.length ∧ ix = .int .i64 k ∧ Hid (∀ t, t < k → ext X.a X.b (kd p t) (kd q t) = true) ∧ AtW Tt wr) (fun ix _ => q.kids.length - (intOf ix).toNat)
      case atStart => exact ⟨0, by omega, rfl, (fun t ht => by omega), ht2⟩
      case round =>
        clear ht2
        obtain ⟨k, hk, rfl, hn, ht⟩ := hrel
        by_cases hlt : k < q.kids.length
        · have hk1 : k < p.kids.length := by have := HKL.out; omega
          have YES : Hid (ext X.a X.b (kd p k) (kd q k) = true → ∀ t, t < k + 1 → ext X.a X.b (kd p t) (kd q t) = true) := fun h => upTo (f := fun t => ext X.a X.b (kd p t) (kd q t)) hn.out h
          have NO : Hid (ext X.a X.b (kd p k) (kd q k) = false → Z = false) := fun h => HE.out.trans (allN_no (f := fun t => ext X.a X.b (kd p t) (kd q t)) hlt h)
          obtain ⟨bk, ok, hAk, hbk, hck⟩ := KP.out k hk1
          subst hAk
          obtain ⟨bk', ok', hAk', hbk', hck'⟩ := KQ.out k hlt
          subst hAk'
          rw [KA.out _ hk1] at hck
          rw [KB.out _ hlt] at hck'
          have R1 := Lib.hid (tR.out k hk1 _ hlt)
          replace hck := fun w' (h : AtW Tt w') => hck w' (tW.out w' h); replace hck' := fun w' (h : AtW Tt w') => hck' w' (tW.out w' h)
          clear hn
          have d1 : decide ((k : Int) < (q.kids.length : Int)) = true := decide_eq_true (by omega)
          generalize kd p k = u at *
          generalize kd q k = v at *
          generalize ext X.a X.b u v = r at *
          have b1 : (0 : Int) ≤ (k : Int) := by omega
          have b2 : (k : Int) < (p.kids.length : Int) := by omega
          have b4 : (k : Int) < (q.kids.length : Int) := by omega
          go_wp2_with fail
          go_region_held3 (fun w' => AtW Tt w') (first | assumption | exact tE.out _ _ (by assumption) (Ext_drew (Ext.refl _)) | exact tE.out _ _ (by assumption) (by assumption)) (first
            | (go_at_call 30; refine (R1.out _ (by assumption)).mono ?_; rintro _ w4 ⟨rfl, h4⟩))
          have h5 : AtW Tt w4 := by assumption
          cases r
          · have HF := Lib.hid (NO.out rfl); clear YES NO
            go_wp2
            go_ret
            exact ⟨ret_bool HF.out.symm, FIN.out _ h5⟩
          · have HF := Lib.hid (YES.out rfl); clear YES NO
            go_wp2
            go_roundw
            case rel => exact ⟨k + 1, by omega, by go_num, HF, h5⟩
            case measure => simp [intOf]; omega
        · have HF : Hid (Z = true) := HE.out.trans (allN_yes (f := fun t => ext X.a X.b (kd p t) (kd q t)) fun t ht => hn.out t (by omega))
          have d1 : decide ((k : Int) < (q.kids.length : Int)) = false := decide_eq_false (by omega)
          go_wp2
          go_ret
          exact ⟨ret_bool HF.out.symm, FIN.out _ ht⟩
  · have HE : Hid (Z = false) := hZ.out.trans (by unfold extHead; rw [show (p.kind == q.kind) = false by simpa using hk]; rfl)
    have h1 : (p.kind != q.kind) = true := by simpa using hk
    clear hk hZ fp fq
    go_enter Try.func49, Try.ntmps49
    go_wp2_with fail
    refine wp_region_quiet_below (by kernel_rfl) (by kernel_rfl) ?_
    repeat (go_big_quiet_step (fail))
    refine wpQuiet_nil ?_
    rintro w2 ⟨⟨nq, osq⟩, hq⟩
    have ew2 := ext_of_q hq
    clear hq nq osq
    go_wp2
    go_ret
    exact ⟨ret_bool HE.out.symm, FIN.out _ (tE.out _ _ (hW1 ▸ t0) (by rw [hW1]; exact ew2))⟩
end Go.Proofs.Ytpefbcnfhngggaa
