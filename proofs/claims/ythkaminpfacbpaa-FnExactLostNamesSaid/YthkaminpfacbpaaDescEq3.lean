/- Comparison of rules: the reference's and the program's. -/
import Derived.Test.YthkaminpfacbpaaDescEq2
namespace Go.Proofs.Ythkaminpfacbpaa
open Go.RowKit Go.Sort

set_option maxRecDepth 100000 in
set_option maxHeartbeats 4000000 in
theorem l4Equal_c (r q : DRule) (Ab : Option Addr) (cb : Nat) (An : Option Addr) (cn : Nat) (At : Option Addr) (ct : Nat) (Ak : Option Addr) (ck : Nat) (Ab' : Option Addr) (cb' : Nat) (An' : Option Addr) (cn' : Nat) (At' : Option Addr) (ct' : Nat) (Ak' : Option Addr) (ck' : Nat) (w : World) (h : RdS w r Ab cb An cn At ct Ak ck) (h' : RdS w q Ab' cb' An' cn' At' ct' Ak' ck') (hs : ShortR r) (hs' : ShortR q) :
    Gives Try.prog 118 #[vrule r (.slice Ab r.bytes.length cb) (.slice An r.names.length cn) (.slice At r.tags.length ct) (.slice Ak r.kids.length ck), vrule q (.slice Ab' q.bytes.length cb') (.slice An' q.names.length cn') (.slice At' q.tags.length ct') (.slice Ak' q.kids.length ck')] w (.bool (eqR r q)) := by
  have eb := Ext_alloc (.cells #[.string q.nm, .int .i64 q.kind, .int .i64 q.size, .bool q.little, .slice Ab' q.bytes.length cb', .slice An' q.names.length cn', .slice At' q.tags.length ct', .slice Ak' q.kids.length ck'] 68) (Ext_alloc (.cells #[.string r.nm, .int .i64 r.kind, .int .i64 r.size, .bool r.little, .slice Ab r.bytes.length cb, .slice An r.names.length cn, .slice At r.tags.length ct, .slice Ak r.kids.length ck] 68) (Ext.refl w))
  have BX := fun w' (e : Ext ((w.alloc (.cells #[.string r.nm, .int .i64 r.kind, .int .i64 r.size, .bool r.little, .slice Ab r.bytes.length cb, .slice An r.names.length cn, .slice At r.tags.length ct, .slice Ak r.kids.length ck] 68)).alloc (.cells #[.string q.nm, .int .i64 q.kind, .int .i64 q.size, .bool q.little, .slice Ab' q.bytes.length cb', .slice An' q.names.length cn', .slice At' q.tags.length ct', .slice Ak' q.kids.length ck'] 68)) w') => boxed2 e
  have B0 := fun w' e => (BX w' e).1
  have B1 := fun w' e => (BX w' e).2.1
  clear BX
  have C5 := Lib.hid (fun w h h' => sEqualBytes_c Ab Ab' r.bytes q.bytes cb cb' w h h')
  have C6 := Lib.hid (fun w h h' => l4Texts_c An An' r.names q.names cn cn' w h h')
  have C7 := Lib.hid (fun w h h' => l4Ints_c At At' r.tags q.tags ct ct' w h h')
  have C8 := Lib.hid (fun w h h' => l4Ints_c Ak Ak' r.kids q.kids ck ck' w h h')
  have K5 := Lib.hid (fun w' (e : Ext w w') => C5.out w' (⟨h.b.ext e, hs.1⟩) (⟨h'.b.ext e, hs'.1⟩))
  have K6 := Lib.hid (fun w' (e : Ext w w') => C6.out w' (h.n.ext e) (h'.n.ext e))
  have K7 := Lib.hid (fun w' (e : Ext w w') => C7.out w' (h.t.ext e) (h'.t.ext e))
  have K8 := Lib.hid (fun w' (e : Ext w w') => C8.out w' (h.k.ext e) (h'.k.ext e))
  clear C5 C6 C7 C8 h h' hs hs'
  unfold eqR
  generalize (r.bytes == q.bytes) = q5 at *
  generalize eqNms r.names q.names = q6 at *
  generalize (r.tags == q.tags) = q7 at *
  generalize (r.kids == q.kids) = q8 at *
  obtain ⟨nm, kind, size, little, bytes, names, tags, kids⟩ := r
  obtain ⟨nm', kind', size', little', bytes', names', tags', kids'⟩ := q
  unfold vrule
  dsimp only at *
  have HB0 := Lib.hid B0; have HB1 := Lib.hid B1; have b00 := B0 _ (Ext.refl _); have b10 := B1 _ (Ext.refl _); clear B0 B1
  cases g1 : (nm.toList == nm'.toList)
  · have h1 : (nm.toList != nm'.toList) = true := by rw [bne, g1]; rfl
    go_enter Try.func118, Try.ntmps118
    go_wp2
    go_ret
    exact ⟨ret_bool (by simp), eb⟩
  have h1 : (nm.toList != nm'.toList) = false := by rw [bne, g1]; rfl
  cases g2 : (kind == kind')
  · have h2 : (kind != kind') = true := by rw [bne, g2]; rfl
    go_enter Try.func118, Try.ntmps118
    go_wp2
    go_ret
    exact ⟨ret_bool (by simp), eb⟩
  have h2 : (kind != kind') = false := by rw [bne, g2]; rfl
  cases g3 : (size == size')
  · have h3 : (size != size') = true := by rw [bne, g3]; rfl
    go_enter Try.func118, Try.ntmps118
    go_wp2
    go_ret
    exact ⟨ret_bool (by simp), eb⟩
  have h3 : (size != size') = false := by rw [bne, g3]; rfl
  cases g4 : (little == little')
  · have h4 : (little != little') = true := by rw [bne, g4]; rfl
    go_enter Try.func118, Try.ntmps118
    go_wp2
    go_ret
    exact ⟨ret_bool (by simp), eb⟩
  have h4 : (little != little') = false := by rw [bne, g4]; rfl
  go_enter Try.func118, Try.ntmps118
  go_wp2_with fail
  refine (K5.out _ eb).mono ?_; rintro _ w5 ⟨rfl, he5⟩
  have e5 := he5
  have b05 := HB0.out _ e5; have b15 := HB1.out _ e5; clear he5 b00 b10 h1 h2 h3 h4 g1 g2 g3 g4
  cases q5
  · go_wp2
    go_ret
    exact ⟨ret_bool (by simp), eb.trans e5⟩
  go_wp2_with fail
  refine (K6.out _ (eb.trans e5)).mono ?_; rintro _ w6 ⟨rfl, he6⟩
  have e6 := e5.trans he6
  have b06 := HB0.out _ e6; have b16 := HB1.out _ e6; clear he6 b05 b15 e5
  cases q6
  · go_wp2
    go_ret
    exact ⟨ret_bool (by simp), eb.trans e6⟩
  go_wp2_with fail
  refine (K7.out _ (eb.trans e6)).mono ?_; rintro _ w7 ⟨rfl, he7⟩
  have e7 := e6.trans he7
  have b07 := HB0.out _ e7; have b17 := HB1.out _ e7; clear he7 b06 b16 e6
  cases q7
  · go_wp2
    go_ret
    exact ⟨ret_bool (by simp), eb.trans e7⟩
  go_wp2_with fail
  refine (K8.out _ (eb.trans e7)).mono ?_; rintro _ w8 ⟨rfl, he8⟩
  have e8 := e7.trans he8
  have b08 := HB0.out _ e8; have b18 := HB1.out _ e8; clear he8 b07 b17 e7
  cases q8
  · go_wp2
    go_ret
    exact ⟨ret_bool (by simp), eb.trans e8⟩
  go_wp2
  go_ret
  exact ⟨ret_bool (by simp), eb.trans e8⟩
set_option maxRecDepth 100000 in
set_option maxHeartbeats 4000000 in
theorem iEqualRules_c (r q : DRule) (Ab : Option Addr) (cb : Nat) (An : Option Addr) (cn : Nat) (At : Option Addr) (ct : Nat) (Ak : Option Addr) (ck : Nat) (Ab' : Option Addr) (cb' : Nat) (An' : Option Addr) (cn' : Nat) (At' : Option Addr) (ct' : Nat) (Ak' : Option Addr) (ck' : Nat) (w : World) (h : RdS w r Ab cb An cn At ct Ak ck) (h' : RdS w q Ab' cb' An' cn' At' ct' Ak' ck') (hs : ShortR r) (hs' : ShortR q) :
    Gives Try.prog 119 #[vrule r (.slice Ab r.bytes.length cb) (.slice An r.names.length cn) (.slice At r.tags.length ct) (.slice Ak r.kids.length ck), vrule q (.slice Ab' q.bytes.length cb') (.slice An' q.names.length cn') (.slice At' q.tags.length ct') (.slice Ak' q.kids.length ck')] w (.bool (eqR r q)) := by
  have eb := Ext_alloc (.cells #[.string q.nm, .int .i64 q.kind, .int .i64 q.size, .bool q.little, .slice Ab' q.bytes.length cb', .slice An' q.names.length cn', .slice At' q.tags.length ct', .slice Ak' q.kids.length ck'] 68) (Ext_alloc (.cells #[.string r.nm, .int .i64 r.kind, .int .i64 r.size, .bool r.little, .slice Ab r.bytes.length cb, .slice An r.names.length cn, .slice At r.tags.length ct, .slice Ak r.kids.length ck] 68) (Ext.refl w))
  have BX := fun w' (e : Ext ((w.alloc (.cells #[.string r.nm, .int .i64 r.kind, .int .i64 r.size, .bool r.little, .slice Ab r.bytes.length cb, .slice An r.names.length cn, .slice At r.tags.length ct, .slice Ak r.kids.length ck] 68)).alloc (.cells #[.string q.nm, .int .i64 q.kind, .int .i64 q.size, .bool q.little, .slice Ab' q.bytes.length cb', .slice An' q.names.length cn', .slice At' q.tags.length ct', .slice Ak' q.kids.length ck'] 68)) w') => boxed2 e
  have B0 := fun w' e => (BX w' e).1
  have B1 := fun w' e => (BX w' e).2.1
  clear BX
  have C5 := Lib.hid (fun w h h' => iEqualBytes_c Ab Ab' r.bytes q.bytes cb cb' w h h')
  have C6 := Lib.hid (fun w h h' => iEqTexts_c An An' r.names q.names cn cn' w h h')
  have C7 := Lib.hid (fun w h h' => iEqInts_c At At' r.tags q.tags ct ct' w h h')
  have C8 := Lib.hid (fun w h h' => iEqInts_c Ak Ak' r.kids q.kids ck ck' w h h')
  have K5 := Lib.hid (fun w' (e : Ext w w') => C5.out w' (⟨h.b.ext e, hs.1⟩) (⟨h'.b.ext e, hs'.1⟩))
  have K6 := Lib.hid (fun w' (e : Ext w w') => C6.out w' (h.n.ext e) (h'.n.ext e))
  have K7 := Lib.hid (fun w' (e : Ext w w') => C7.out w' (h.t.ext e) (h'.t.ext e))
  have K8 := Lib.hid (fun w' (e : Ext w w') => C8.out w' (h.k.ext e) (h'.k.ext e))
  clear C5 C6 C7 C8 h h' hs hs'
  unfold eqR
  generalize (r.bytes == q.bytes) = q5 at *
  generalize eqNms r.names q.names = q6 at *
  generalize (r.tags == q.tags) = q7 at *
  generalize (r.kids == q.kids) = q8 at *
  obtain ⟨nm, kind, size, little, bytes, names, tags, kids⟩ := r
  obtain ⟨nm', kind', size', little', bytes', names', tags', kids'⟩ := q
  unfold vrule
  dsimp only at *
  have HB0 := Lib.hid B0; have HB1 := Lib.hid B1; have b00 := B0 _ (Ext.refl _); have b10 := B1 _ (Ext.refl _); clear B0 B1
  cases g1 : (nm.toList == nm'.toList)
  · have h1 : (nm.toList != nm'.toList) = true := by rw [bne, g1]; rfl
    go_enter Try.func119, Try.ntmps119
    go_wp2
    go_ret
    exact ⟨ret_bool (by simp), eb⟩
  have h1 : (nm.toList != nm'.toList) = false := by rw [bne, g1]; rfl
  cases g2 : (kind == kind')
  · have h2 : (kind != kind') = true := by rw [bne, g2]; rfl
    go_enter Try.func119, Try.ntmps119
    go_wp2
    go_ret
    exact ⟨ret_bool (by simp), eb⟩
  have h2 : (kind != kind') = false := by rw [bne, g2]; rfl
  cases g3 : (size == size')
  · have h3 : (size != size') = true := by rw [bne, g3]; rfl
    go_enter Try.func119, Try.ntmps119
    go_wp2
    go_ret
    exact ⟨ret_bool (by simp), eb⟩
  have h3 : (size != size') = false := by rw [bne, g3]; rfl
  cases g4 : (little == little')
  · have h4 : (little != little') = true := by rw [bne, g4]; rfl
    go_enter Try.func119, Try.ntmps119
    go_wp2
    go_ret
    exact ⟨ret_bool (by simp), eb⟩
  have h4 : (little != little') = false := by rw [bne, g4]; rfl
  go_enter Try.func119, Try.ntmps119
  go_wp2_with fail
  refine (K5.out _ eb).mono ?_; rintro _ w5 ⟨rfl, he5⟩
  have e5 := he5
  have b05 := HB0.out _ e5; have b15 := HB1.out _ e5; clear he5 b00 b10 h1 h2 h3 h4 g1 g2 g3 g4
  cases q5
  · go_wp2
    go_ret
    exact ⟨ret_bool (by simp), eb.trans e5⟩
  go_wp2_with fail
  refine (K6.out _ (eb.trans e5)).mono ?_; rintro _ w6 ⟨rfl, he6⟩
  have e6 := e5.trans he6
  have b06 := HB0.out _ e6; have b16 := HB1.out _ e6; clear he6 b05 b15 e5
  cases q6
  · go_wp2
    go_ret
    exact ⟨ret_bool (by simp), eb.trans e6⟩
  go_wp2_with fail
  refine (K7.out _ (eb.trans e6)).mono ?_; rintro _ w7 ⟨rfl, he7⟩
  have e7 := e6.trans he7
  have b07 := HB0.out _ e7; have b17 := HB1.out _ e7; clear he7 b06 b16 e6
  cases q7
  · go_wp2
    go_ret
    exact ⟨ret_bool (by simp), eb.trans e7⟩
  go_wp2_with fail
  refine (K8.out _ (eb.trans e7)).mono ?_; rintro _ w8 ⟨rfl, he8⟩
  have e8 := e7.trans he8
  have b08 := HB0.out _ e8; have b18 := HB1.out _ e8; clear he8 b07 b17 e7
  cases q8
  · go_wp2
    go_ret
    exact ⟨ret_bool (by simp), eb.trans e8⟩
  go_wp2
  go_ret
  exact ⟨ret_bool (by simp), eb.trans e8⟩
/-- rules, all short -/
def ShortD (ds : List DRule) : Prop := ∀ r ∈ ds, ShortR r
def ShortG (gs : List (List DRule)) : Prop := ∀ d ∈ gs, ShortD d
theorem shortD_of {ds : List DRule} (h : szD ds ≤ 1048576) : ShortD ds := fun _ hr => (szRl_short (szD_mem h hr)).1
theorem shortG_of {gs : List (List DRule)} (h : szG gs ≤ 1048576) : ShortG gs := fun _ hd => shortD_of (szG_mem h hd)
set_option maxRecDepth 100000 in
set_option maxHeartbeats 4000000 in
theorem eqRuleS_c (A A' : Option Addr) (ds es : List DRule) (c c' : Nat) (w : World) (h : RdD w A ds c) (h' : RdD w A' es c') (hs : ShortD ds) (hs' : ShortD es) :
    Gives Try.prog 76 #[.slice A ds.length c, .slice A' es.length c'] w (.bool (eqD ds es)) := by
  have hl := h.len; have hl' := h'.len
  have eb := Ext.refl w
  by_cases hn : ds.length = es.length
  · have hb1 : ((ds.length : Int) != (es.length : Int)) = false := by simp [hn]
    have H := Lib.hid hn; clear hn
    go_enter Try.func76, Try.ntmps76
    go_wp2
    go_loopw [5] (fun i wr => ∃ k : Nat, k ≤ ds.length ∧ i = .int .i64 k ∧ Hid (∀ j (h1 : j < ds.length) (h2 : j < es.length), j < k → eqR ds[j] es[j] = true) ∧ Ext w wr) (fun i _ => ds.length - (intOf i).toNat)
    case atStart => exact ⟨0, by omega, rfl, (fun j _ _ hj => by omega), Ext.refl _⟩
    case round =>
      obtain ⟨k, hk, rfl, ht, he⟩ := hrel
      by_cases hlt : k < ds.length
      · have hlt' : k < es.length := by have := H.out; omega
        obtain ⟨b, off, Ab, cb, An, cn, At, ct, Ak, ck, rfl, hb, hS, hR⟩ := h.at k hlt
        obtain ⟨b', off', Ab', cb', An', cn', At', ct', Ak', ck', rfl, hb', hS', hR'⟩ := h'.at k hlt'
        have s1 := hs _ (List.getElem_mem hlt); have s2 := hs' _ (List.getElem_mem hlt')
        have NO : Hid (eqR ds[k] es[k] = false → eqD ds es = false) := eqAll_take _ ds es k hlt hlt'
        have YES : Hid (eqR ds[k] es[k] = true → ∀ j (h1 : j < ds.length) (h2 : j < es.length), j < k + 1 → eqR ds[j] es[j] = true) := by
          intro hy j h1 h2 hj
          rcases (by omega : j < k ∨ j = k) with hj | rfl
          · exact ht.out j h1 h2 hj
          · exact hy
        generalize ds[k] = r at *
        generalize es[k] = q at *
        have CE := Lib.hid (fun w h h' => eqRule_c r q Ab cb An cn At ct Ak ck Ab' cb' An' cn' At' ct' Ak' ck' w h h' s1 s2)
        generalize eqR r q = z at *
        replace hR := hR.ext eb
        replace hR' := hR'.ext eb
        obtain ⟨k0, k1, k2, k3, k4, k5, k6, k7⟩ := hR
        obtain ⟨j0, j1, j2, j3, j4, j5, j6, j7⟩ := hR'
        unfold vrule at CE
        have H1 := Lib.hid (fun w' (e : Ext _ w') => hS.ext (eb.trans e)); have H2 := Lib.hid (fun w' (e : Ext _ w') => hS'.ext (eb.trans e))
        clear h h' s1 s2 hS hS' hs hs'
        have HT := ht; clear ht
        go_wp2_with fail
        refine wp_region_quiet_below (by kernel_rfl) (by kernel_rfl) ?_
        repeat (go_big_quiet_step ((go_at_call 116; exact Calls.regrown_of (CE.out _ (H1.out _ (by first | assumption | exact Ext_regrown _ _ he)) (H2.out _ (by first | assumption | exact Ext_regrown _ _ he))))))
        refine wpQuiet_nil ?_
        rintro w1 ⟨⟨nq, osq⟩, hq⟩
        have ew1 := ext_of_q hq
        clear hq nq osq
        have he1 := he.trans ew1
        cases z
        · have NO' := Lib.hid (NO.out rfl); clear NO YES
          go_wp2
          go_ret
          exact ⟨ret_bool NO'.out.symm, eb.trans he1⟩
        · have YES' := Lib.hid (YES.out rfl); clear NO YES
          go_wp2
          go_roundw
          case rel => exact ⟨k+1, by omega, by go_num, YES'.out, he1⟩
          case measure => simp [intOf]; omega
      · have hk' : k = ds.length := by omega
        have HE : Hid (eqD ds es = true) := eqAll_all _ _ _ H.out (fun j h1 h2 => ht.out j h1 h2 (by omega))
        go_wp2
        go_ret
        exact ⟨ret_bool HE.out.symm, eb.trans he⟩
  · have hb1 : ((ds.length : Int) != (es.length : Int)) = true := by simp; omega
    have HE : Hid (eqD ds es = false) := eqAll_len _ _ _ hn
    go_enter Try.func76, Try.ntmps76
    go_wp2
    go_ret
    exact ⟨ret_bool HE.out.symm, eb⟩
end Go.Proofs.Ythkaminpfacbpaa
