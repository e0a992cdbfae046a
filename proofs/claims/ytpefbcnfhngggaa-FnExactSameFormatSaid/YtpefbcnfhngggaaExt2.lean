/- tagIndex and the comparisons of the program, but for the parts. -/
import Derived.Test.YtpefbcnfhngggaaExtPure
namespace Go.Proofs.Ytpefbcnfhngggaa
open Go.RowKit Go.Sort

def tagI (l : List Int) (t : Int) : Int := if tagN l t < l.length then (tagN l t : Int) else -1
set_option maxHeartbeats 400000 in
theorem iTag1_c (g : Nat) (x t : Int) (w : World) (hc : ∀ w', Ext w w' → w'.cell? ⟨g, 0, none⟩ = some (.int .i64 t)) :
    Gives Try.prog 73 #[.int .i64 x, .pointer (some ⟨g, 0, none⟩)] w (.bool (x == t)) := by
  go_enter Try.func73, Try.ntmps73
  go_wp2
  go_ret
  exact ⟨rfl, Ext.refl _⟩
set_option maxRecDepth 100000 in
set_option maxHeartbeats 1000000 in
theorem idxTag_c (A : Option Addr) (l : List Int) (c : Nat) (g : Nat) (t : Int) (w : World) (h : Rd0 vint w A l c) (hc : ∀ w', Ext w w' → w'.cell? ⟨g, 0, none⟩ = some (.int .i64 t)) :
    Gives Try.prog 72 #[.slice A l.length c, .func (.func 73) #[] #[.pointer (some ⟨g, 0, none⟩)]] w (.int .i64 (tagI l t)) := by
  have hl := h.len
  have FY : Hid (∀ k (hk : k < l.length), (∀ j (hj : j < l.length), j < k → l[j] ≠ t) → l[k] = t → tagI l t = (k : Int)) := by
    intro k hk hn he; unfold tagI; rw [tagN_at hk he hn, if_pos hk]
  have FN : Hid ((∀ j (hj : j < l.length), l[j] ≠ t) → tagI l t = -1) := by
    intro hn; unfold tagI; rw [tagN_none hn, if_neg (Nat.lt_irrefl _)]
  generalize tagI l t = R at *
  have C := Lib.hid (fun x w' (e : Ext w w') => iTag1_c g x t w' (fun w'' e' => hc w'' (e.trans e')))
  clear hc
  go_enter Try.func72, Try.ntmps72
  go_wp2
  go_loopw [9] (fun ix wr => ∃ k : Nat, k ≤ l.length ∧ ix = .int .i64 k ∧ Hid (∀ j (hj : j < l.length), j < k → l[j] ≠ t) ∧ Ext w wr) (fun ix _ => l.length - (intOf ix).toNat)
  case atStart => exact ⟨0, by omega, rfl, (fun j _ hj => by omega), Ext.refl _⟩
  case round =>
    obtain ⟨k, hk, rfl, hn, he⟩ := hrel
    by_cases hlt : k < l.length
    · obtain ⟨b, off, rfl, hb, hcl⟩ := h.at k hlt
      have Y := Lib.hid (FY.out k hlt hn.out)
      have N : Hid (¬ l[k] = t → ∀ j (hj : j < l.length), j < k + 1 → l[j] ≠ t) := fun hne j hj hjk => by
        rcases (by omega : j < k ∨ j = k) with hjk | rfl
        · exact hn.out j hj hjk
        · exact hne
      generalize l[k] = x at *
      clear FY FN hn h
      by_cases hx : x = t
      · have HE := Lib.hid (Y.out hx); clear Y N
        have kx : (x == t) = true := by simpa using hx
        clear hx
        go_wp2_with fail
        refine (C.out _ _ he).mono ?_; rintro _ w1 ⟨rfl, s1⟩; rw [kx]
        go_wp2
        go_ret
        exact ⟨ret_i64 HE.out.symm, he.trans s1⟩
      · have HE := Lib.hid (N.out hx); clear Y N
        have kx : (x == t) = false := by simpa using hx
        clear hx
        go_wp2_with fail
        refine (C.out _ _ he).mono ?_; rintro _ w1 ⟨rfl, s1⟩; rw [kx]
        go_wp2
        go_roundw
        case rel => exact ⟨k + 1, by omega, by go_num, HE, he.trans s1⟩
        case measure => simp [intOf]; omega
    · have HE := Lib.hid (FN.out (fun j hj => hn.out j hj (by omega)))
      clear FY FN
      go_wp2
      go_ret
      exact ⟨ret_i64 HE.out.symm, he⟩
set_option maxHeartbeats 1000000 in
theorem iTagIx_c (p : DRule) (Ab : Option Addr) (cb : Nat) (An : Option Addr) (cn : Nat) (At : Option Addr) (ct : Nat) (Ak : Option Addr) (ck : Nat) (t : Int) (w : World) (h : RdS w p Ab cb An cn At ct Ak ck) :
    Gives Try.prog 62 #[vrule p (.slice Ab p.bytes.length cb) (.slice An p.names.length cn) (.slice At p.tags.length ct) (.slice Ak p.kids.length ck), .int .i64 t] w (.int .i64 (tagI p.tags t)) := by
  have eb := Ext_alloc (.cells #[.int .i64 t] 3) (Ext_alloc (.cells #[.string p.nm, .int .i64 p.kind, .int .i64 p.size, .bool p.little, .slice Ab p.bytes.length cb, .slice An p.names.length cn, .slice At p.tags.length ct, .slice Ak p.kids.length ck] 73) (Ext.refl w))
  have BX := fun w' (e : Ext ((w.alloc (.cells #[.string p.nm, .int .i64 p.kind, .int .i64 p.size, .bool p.little, .slice Ab p.bytes.length cb, .slice An p.names.length cn, .slice At p.tags.length ct, .slice Ak p.kids.length ck] 73)).alloc (.cells #[.int .i64 t] 3)) w') => boxed2 e
  have B0 := fun w' e => (BX w' e).1
  have B1 := fun w' e => (BX w' e).2.1
  clear BX
  have C := Lib.hid (idxTag_c At p.tags ct (w.heap.size + 1) t _ (h.t.ext eb) (fun w' e => B1 w' e 0))
  unfold vrule
  go_enter Try.func62, Try.ntmps62
  go_wp2_with fail
  refine C.out.mono ?_; rintro _ w1 ⟨rfl, s1⟩
  go_wp2
  go_ret
  exact ⟨rfl, eb.trans s1⟩
set_option maxHeartbeats 2000000 in
theorem plainExt_c (p q : DRule) (Ab : Option Addr) (cb : Nat) (An : Option Addr) (cn : Nat) (At : Option Addr) (ct : Nat) (Ak : Option Addr) (ck : Nat) (Ab' : Option Addr) (cb' : Nat) (An' : Option Addr) (cn' : Nat) (At' : Option Addr) (ct' : Nat) (Ak' : Option Addr) (ck' : Nat) (w : World) (h : RdS w p Ab cb An cn At ct Ak ck) (h' : RdS w q Ab' cb' An' cn' At' ct' Ak' ck') (hs : ShortR p) (hs' : ShortR q) :
    Gives Try.prog 103 #[vrule p (.slice Ab p.bytes.length cb) (.slice An p.names.length cn) (.slice At p.tags.length ct) (.slice Ak p.kids.length ck), vrule q (.slice Ab' q.bytes.length cb') (.slice An' q.names.length cn') (.slice At' q.tags.length ct') (.slice Ak' q.kids.length ck')] w (.bool (p.size == q.size && (p.little == q.little && p.bytes == q.bytes))) := by
  have eb := Ext_alloc (.cells #[.string q.nm, .int .i64 q.kind, .int .i64 q.size, .bool q.little, .slice Ab' q.bytes.length cb', .slice An' q.names.length cn', .slice At' q.tags.length ct', .slice Ak' q.kids.length ck'] 73) (Ext_alloc (.cells #[.string p.nm, .int .i64 p.kind, .int .i64 p.size, .bool p.little, .slice Ab p.bytes.length cb, .slice An p.names.length cn, .slice At p.tags.length ct, .slice Ak p.kids.length ck] 98) (Ext.refl w))
  have BX := fun w' (e : Ext ((w.alloc (.cells #[.string p.nm, .int .i64 p.kind, .int .i64 p.size, .bool p.little, .slice Ab p.bytes.length cb, .slice An p.names.length cn, .slice At p.tags.length ct, .slice Ak p.kids.length ck] 98)).alloc (.cells #[.string q.nm, .int .i64 q.kind, .int .i64 q.size, .bool q.little, .slice Ab' q.bytes.length cb', .slice An' q.names.length cn', .slice At' q.tags.length ct', .slice Ak' q.kids.length ck'] 73)) w') => boxed2 e
  have B0 := fun w' e => (BX w' e).1
  have B1 := fun w' e => (BX w' e).2.1
  clear BX
  have C := Lib.hid (fun w' (e : Ext w w') => iEqualBytes_c Ab Ab' p.bytes q.bytes cb cb' w' ⟨h.b.ext e, hs.1⟩ ⟨h'.b.ext e, hs'.1⟩)
  unfold vrule
  generalize (p.bytes == q.bytes) = z at *
  generalize p.little = lp at *
  generalize q.little = lq at *
  cases g1 : (p.size == q.size)
  · go_enter Try.func103, Try.ntmps103
    go_wp2
    go_ret
    exact ⟨ret_bool (by simp), eb⟩
  · cases g2 : (lp == lq)
    · go_enter Try.func103, Try.ntmps103
      go_wp2
      go_ret
      exact ⟨ret_bool (by simp), eb⟩
    · obtain rfl : lp = lq := by simpa using g2
      clear g2
      go_enter Try.func103, Try.ntmps103
      go_wp2_with fail
      refine (C.out _ eb).mono ?_; rintro _ w1 ⟨rfl, s1⟩
      go_wp2
      go_ret
      exact ⟨ret_bool (by simp), eb.trans s1⟩
set_option maxHeartbeats 2000000 in
theorem partsExt_c (p q : DRule) (Ab : Option Addr) (cb : Nat) (An : Option Addr) (cn : Nat) (At : Option Addr) (ct : Nat) (Ak : Option Addr) (ck : Nat) (Ab' : Option Addr) (cb' : Nat) (An' : Option Addr) (cn' : Nat) (At' : Option Addr) (ct' : Nat) (Ak' : Option Addr) (ck' : Nat) (w : World) (h : RdS w p Ab cb An cn At ct Ak ck) (h' : RdS w q Ab' cb' An' cn' At' ct' Ak' ck') :
    Gives Try.prog 100 #[vrule p (.slice Ab p.bytes.length cb) (.slice An p.names.length cn) (.slice At p.tags.length ct) (.slice Ak p.kids.length ck), vrule q (.slice Ab' q.bytes.length cb') (.slice An' q.names.length cn') (.slice At' q.tags.length ct') (.slice Ak' q.kids.length ck')] w (.bool (eqNms p.names q.names && decide (p.kids.length = q.kids.length))) := by
  have eb := Ext_alloc (.cells #[.string q.nm, .int .i64 q.kind, .int .i64 q.size, .bool q.little, .slice Ab' q.bytes.length cb', .slice An' q.names.length cn', .slice At' q.tags.length ct', .slice Ak' q.kids.length ck'] 73) (Ext_alloc (.cells #[.string p.nm, .int .i64 p.kind, .int .i64 p.size, .bool p.little, .slice Ab p.bytes.length cb, .slice An p.names.length cn, .slice At p.tags.length ct, .slice Ak p.kids.length ck] 96) (Ext.refl w))
  have BX := fun w' (e : Ext ((w.alloc (.cells #[.string p.nm, .int .i64 p.kind, .int .i64 p.size, .bool p.little, .slice Ab p.bytes.length cb, .slice An p.names.length cn, .slice At p.tags.length ct, .slice Ak p.kids.length ck] 96)).alloc (.cells #[.string q.nm, .int .i64 q.kind, .int .i64 q.size, .bool q.little, .slice Ab' q.bytes.length cb', .slice An' q.names.length cn', .slice At' q.tags.length ct', .slice Ak' q.kids.length ck'] 73)) w') => boxed2 e
  have B0 := fun w' e => (BX w' e).1
  have B1 := fun w' e => (BX w' e).2.1
  clear BX
  have C := Lib.hid (fun w' (e : Ext w w') => iEqTexts_c An An' p.names q.names cn cn' w' (h.n.ext e) (h'.n.ext e))
  unfold vrule
  generalize eqNms p.names q.names = z at *
  have hq : ((p.kids.length : Int) == (q.kids.length : Int)) = decide (p.kids.length = q.kids.length) := by
    rw [Bool.eq_iff_iff]; simp; try omega
  have HQ := Lib.hid hq; clear hq
  cases z
  · go_enter Try.func100, Try.ntmps100
    go_wp2_with fail
    refine (C.out _ eb).mono ?_; rintro _ w1 ⟨rfl, s1⟩
    go_wp2
    go_ret
    exact ⟨ret_bool (by simp), eb.trans s1⟩
  · go_enter Try.func100, Try.ntmps100
    go_wp2_with fail
    refine (C.out _ eb).mono ?_; rintro _ w1 ⟨rfl, s1⟩
    replace B0 := fun w' (e : Ext w1 w') => B0 w' (Ext.trans s1 e); replace B1 := fun w' (e : Ext w1 w') => B1 w' (Ext.trans s1 e)
    go_wp2
    go_ret
    exact ⟨ret_bool (by simp [HQ.out]), eb.trans s1⟩
set_option maxHeartbeats 2000000 in
theorem tagsExt_c (p q : DRule) (Ab : Option Addr) (cb : Nat) (An : Option Addr) (cn : Nat) (At : Option Addr) (ct : Nat) (Ak : Option Addr) (ck : Nat) (Ab' : Option Addr) (cb' : Nat) (An' : Option Addr) (cn' : Nat) (At' : Option Addr) (ct' : Nat) (Ak' : Option Addr) (ck' : Nat) (w : World) (h : RdS w p Ab cb An cn At ct Ak ck) (h' : RdS w q Ab' cb' An' cn' At' ct' Ak' ck') :
    Gives Try.prog 102 #[vrule p (.slice Ab p.bytes.length cb) (.slice An p.names.length cn) (.slice At p.tags.length ct) (.slice Ak p.kids.length ck), vrule q (.slice Ab' q.bytes.length cb') (.slice An' q.names.length cn') (.slice At' q.tags.length ct') (.slice Ak' q.kids.length ck')] w (.bool (allN q.tags.length (fun t => decide (tagN p.tags (q.tags.getD t 0) < p.tags.length)))) := by
  have eb := Ext_alloc (.cells #[.string q.nm, .int .i64 q.kind, .int .i64 q.size, .bool q.little, .slice Ab' q.bytes.length cb', .slice An' q.names.length cn', .slice At' q.tags.length ct', .slice Ak' q.kids.length ck'] 73) (Ext_alloc (.cells #[.string p.nm, .int .i64 p.kind, .int .i64 p.size, .bool p.little, .slice Ab p.bytes.length cb, .slice An p.names.length cn, .slice At p.tags.length ct, .slice Ak p.kids.length ck] 97) (Ext.refl w))
  have BX := fun w' (e : Ext ((w.alloc (.cells #[.string p.nm, .int .i64 p.kind, .int .i64 p.size, .bool p.little, .slice Ab p.bytes.length cb, .slice An p.names.length cn, .slice At p.tags.length ct, .slice Ak p.kids.length ck] 97)).alloc (.cells #[.string q.nm, .int .i64 q.kind, .int .i64 q.size, .bool q.little, .slice Ab' q.bytes.length cb', .slice An' q.names.length cn', .slice At' q.tags.length ct', .slice Ak' q.kids.length ck'] 73)) w') => boxed2 e
  have B0 := fun w' e => (BX w' e).1
  have B1 := fun w' e => (BX w' e).2.1
  clear BX
  have hlt' := h'.t.len
  have C := Lib.hid (fun t w' (e : Ext w w') => iTagIx_c p Ab cb An cn At ct Ak ck t w' (h.ext e))
  have HE := Lib.hid (rfl : allN q.tags.length (fun t => decide (tagN p.tags (q.tags.getD t 0) < p.tags.length)) = allN q.tags.length (fun t => decide (tagN p.tags (q.tags.getD t 0) < p.tags.length)))
  generalize hZ : allN q.tags.length (fun t => decide (tagN p.tags (q.tags.getD t 0) < p.tags.length)) = Z at *
  have HZ := Lib.hid hZ; clear hZ HE
  unfold vrule at *
  obtain ⟨W2, hW2⟩ : ∃ W2, W2 = ((w.alloc (.cells #[.string p.nm, .int .i64 p.kind, .int .i64 p.size, .bool p.little, .slice Ab p.bytes.length cb, .slice An p.names.length cn, .slice At p.tags.length ct, .slice Ak p.kids.length ck] 97)).alloc (.cells #[.string q.nm, .int .i64 q.kind, .int .i64 q.size, .bool q.little, .slice Ab' q.bytes.length cb', .slice An' q.names.length cn', .slice At' q.tags.length ct', .slice Ak' q.kids.length ck'] 73)) := ⟨_, rfl⟩
  go_enter Try.func102, Try.ntmps102
  go_wp2
  rw [← hW2] at B0 B1 eb ⊢
  clear hW2
  go_loopw [10] (fun ix wr => ∃ k : Nat, k ≤ q.tags.length ∧ ix = .int .i64 k ∧ Hid (∀ t, t < k → decide (tagN p.tags (q.tags.getD t 0) < p.tags.length) = true) ∧ Ext W2 wr) (fun ix _ => q.tags.length - (intOf ix).toNat)
  case atStart => exact ⟨0, by omega, rfl, (fun j hj => by omega), Ext.refl _⟩
  case round =>
    obtain ⟨k, hk, rfl, hn, he⟩ := hrel
    by_cases hlt : k < q.tags.length
    · obtain ⟨b, off, hA, hb, hcl⟩ := (h'.t.ext eb).at k hlt
      subst hA
      have hg : q.tags.getD k 0 = q.tags[k] := by simp [hlt]
      have YES : Hid (decide (tagN p.tags (q.tags.getD k 0) < p.tags.length) = true → ∀ t, t < k + 1 → decide (tagN p.tags (q.tags.getD t 0) < p.tags.length) = true) := fun h => upTo (f := fun t => decide (tagN p.tags (q.tags.getD t 0) < p.tags.length)) hn.out h
      have NO : Hid (decide (tagN p.tags (q.tags.getD k 0) < p.tags.length) = false → Z = false) := fun h => HZ.out.symm.trans (allN_no (f := fun t => decide (tagN p.tags (q.tags.getD t 0) < p.tags.length)) hlt h)
      rw [hg] at YES NO
      clear hg hn HZ
      generalize q.tags[k] = x at *
      have C1 := Lib.hid (C.out x)
      unfold tagI at C1
      by_cases hT : tagN p.tags x < p.tags.length
      · rw [if_pos hT] at C1
        have HF := Lib.hid (YES.out (decide_eq_true hT)); clear YES NO hT
        generalize tagN p.tags x = y at *
        have dy : decide ((y : Int) < 0) = false := decide_eq_false (by omega)
        go_wp2_with fail
        refine (C1.out _ (eb.trans he)).mono ?_; rintro _ w1 ⟨rfl, s1⟩
        go_wp2
        go_roundw
        case rel => exact ⟨k + 1, by omega, by go_num, HF, he.trans s1⟩
        case measure => simp [intOf]; omega
      · rw [if_neg hT] at C1
        have HF := Lib.hid (NO.out (decide_eq_false hT)); clear YES NO hT
        go_wp2_with fail
        refine (C1.out _ (eb.trans he)).mono ?_; rintro _ w1 ⟨rfl, s1⟩
        go_wp2
        go_ret
        exact ⟨ret_bool HF.out.symm, eb.trans (he.trans s1)⟩
    · have HF : Hid (Z = true) := HZ.out.symm.trans (allN_yes fun t ht => hn.out t (by omega))
      go_wp2
      go_ret
      exact ⟨ret_bool HF.out.symm, eb.trans he⟩
end Go.Proofs.Ytpefbcnfhngggaa
