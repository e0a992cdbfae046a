/- Comparison of descriptions: the laws' helpers, the program's and the reference's. -/
import Derived.Test.YtalnekcmfagjoaaDescEq
import Derived.Test.YtalnekcmfagjoaaEqual
import Derived.Test.YtalnekcmfagjoaaDescOwn
namespace Go.Proofs.Ytalnekcmfagjoaa
open Go.RowKit Go.Sort

theorem eqNms_take {l l' : List ByteArray} {k : Nat} (h1 : k < l.length) (h2 : k < l'.length) (h : (l.take k).map ByteArray.toList = (l'.take k).map ByteArray.toList) (e : (l[k].toList == l'[k].toList) = true) : (l.take (k+1)).map ByteArray.toList = (l'.take (k+1)).map ByteArray.toList := by
  rw [List.take_succ_eq_append_getElem h1, List.take_succ_eq_append_getElem h2, List.map_append, List.map_append, h]
  simp at e
  simp [e]
theorem eqNms_no {l l' : List ByteArray} {k : Nat} (h1 : k < l.length) (h2 : k < l'.length) (e : (l[k].toList == l'[k].toList) = false) : eqNms l l' = false := by
  unfold eqNms
  rw [beq_eq_false_iff_ne]
  intro h
  have h3 : (l.map ByteArray.toList)[k]? = (l'.map ByteArray.toList)[k]? := by rw [h]
  simp [h1, h2] at h3
  simp [h3] at e
set_option maxHeartbeats 400000 in
theorem eqStringS_c (A A' : Option Addr) (l l' : List ByteArray) (c c' : Nat) (w : World) (h : Rd0 vstr w A l c) (h' : Rd0 vstr w A' l' c') :
    Gives Try.prog 99 #[.slice A l.length c, .slice A' l'.length c'] w (.bool (eqNms l l')) := by
  have hl := h.len; have hl' := h'.len
  by_cases hn : l.length = l'.length
  · have hb1 : ((l.length : Int) != (l'.length : Int)) = false := by simp [hn]
    have H := Lib.hid hn; clear hn
    go_enter Try.func99, Try.ntmps99
    go_wp2
    go_loopw [5, 4] (fun i v wr => ∃ k : Nat, k ≤ l.length ∧ i = .int .i64 k ∧ Hid ((l.take k).map ByteArray.toList = (l'.take k).map ByteArray.toList) ∧ Ext w wr) (fun i _ _ => l.length - (intOf i).toNat)
    case atStart => exact ⟨0, by omega, rfl, by simp [Hid], Ext.refl _⟩
    case round =>
      obtain ⟨k, hk, rfl, ht, he⟩ := hrel
      by_cases hlt : k < l.length
      · have hlt' : k < l'.length := by have := H.out; omega
        obtain ⟨b, off, rfl, hb, hc⟩ := h.at k hlt
        obtain ⟨b', off', rfl, hb', hc'⟩ := h'.at k hlt'
        clear h h'
        go_wp2
        refine wp_region_quiet_below (by kernel_rfl) (by kernel_rfl) ?_
        repeat (go_big_quiet_step (fail))
        refine wpQuiet_nil ?_
        rintro _ ⟨⟨nq, osq⟩, rfl⟩
        go_wp2
        · have hne : (l[k].toList != l'[k].toList) = true := by assumption
          go_ret
          refine ⟨ret_bool ?_, Ext_regrown _ _ he⟩
          exact (eqNms_no hlt hlt' (by simpa using hne)).symm
        · have hne : (l[k].toList != l'[k].toList) = false := by assumption
          go_roundw
          case rel => exact ⟨k+1, by omega, by go_num, eqNms_take hlt hlt' ht.out (by simpa using hne), Ext_regrown _ _ he⟩
          case measure => simp [intOf]; omega
      · go_wp2
        go_ret
        refine ⟨ret_bool ?_, he⟩
        have ht := ht.out; have H := H.out
        rw [List.take_of_length_le (by omega), List.take_of_length_le (by omega)] at ht
        simp [eqNms, ht]
  · have hb1 : ((l.length : Int) != (l'.length : Int)) = true := by simp; omega
    go_enter Try.func99, Try.ntmps99
    go_wp2
    go_ret
    refine ⟨ret_bool ?_, Ext.refl _⟩
    symm; unfold eqNms; rw [beq_eq_false_iff_ne]; intro h2; exact hn (by have := congrArg List.length h2; simpa using this)


set_option maxRecDepth 100000 in
set_option maxHeartbeats 4000000 in
theorem eqRule_c (r q : DRule) (Ab : Option Addr) (cb : Nat) (An : Option Addr) (cn : Nat) (At : Option Addr) (ct : Nat) (Ak : Option Addr) (ck : Nat) (Ab' : Option Addr) (cb' : Nat) (An' : Option Addr) (cn' : Nat) (At' : Option Addr) (ct' : Nat) (Ak' : Option Addr) (ck' : Nat) (w : World) (h : RdS w r Ab cb An cn At ct Ak ck) (h' : RdS w q Ab' cb' An' cn' At' ct' Ak' ck') (hs : ShortR r) (hs' : ShortR q) :
    Gives Try.prog 69 #[vrule r (.slice Ab r.bytes.length cb) (.slice An r.names.length cn) (.slice At r.tags.length ct) (.slice Ak r.kids.length ck), vrule q (.slice Ab' q.bytes.length cb') (.slice An' q.names.length cn') (.slice At' q.tags.length ct') (.slice Ak' q.kids.length ck')] w (.bool (eqR r q)) := by
  have eb := Ext_alloc (.cells #[.string q.nm, .int .i64 q.kind, .int .i64 q.size, .bool q.little, .slice Ab' q.bytes.length cb', .slice An' q.names.length cn', .slice At' q.tags.length ct', .slice Ak' q.kids.length ck'] 70) (Ext_alloc (.cells #[.string r.nm, .int .i64 r.kind, .int .i64 r.size, .bool r.little, .slice Ab r.bytes.length cb, .slice An r.names.length cn, .slice At r.tags.length ct, .slice Ak r.kids.length ck] 70) (Ext.refl w))
  have BX := fun w' (e : Ext ((w.alloc (.cells #[.string r.nm, .int .i64 r.kind, .int .i64 r.size, .bool r.little, .slice Ab r.bytes.length cb, .slice An r.names.length cn, .slice At r.tags.length ct, .slice Ak r.kids.length ck] 70)).alloc (.cells #[.string q.nm, .int .i64 q.kind, .int .i64 q.size, .bool q.little, .slice Ab' q.bytes.length cb', .slice An' q.names.length cn', .slice At' q.tags.length ct', .slice Ak' q.kids.length ck'] 70)) w') => boxed2 e
  have B0 := fun w' e => (BX w' e).1
  have B1 := fun w' e => (BX w' e).2.1
  clear BX
  have C5 := Lib.hid (fun w h h' => eqByteS_c Ab Ab' r.bytes q.bytes cb cb' w h h')
  have C6 := Lib.hid (fun w h h' => eqStringS_c An An' r.names q.names cn cn' w h h')
  have C7 := Lib.hid (fun w h h' => eqIntS_c At At' r.tags q.tags ct ct' w h h')
  have C8 := Lib.hid (fun w h h' => eqIntS_c Ak Ak' r.kids q.kids ck ck' w h h')
  have K5 := Lib.hid (fun w' (e : Ext w w') => C5.out w' (⟨h.b.ext e, hs.1⟩) (⟨h'.b.ext e, hs'.1⟩))
  have K6 := Lib.hid (fun w' (e : Ext w w') => C6.out w' (h.n.ext e) (h'.n.ext e))
  have K7 := Lib.hid (fun w' (e : Ext w w') => C7.out w' ⟨h.t.ext e, hs.2.2.1⟩ ⟨h'.t.ext e, hs'.2.2.1⟩)
  have K8 := Lib.hid (fun w' (e : Ext w w') => C8.out w' ⟨h.k.ext e, hs.2.2.2⟩ ⟨h'.k.ext e, hs'.2.2.2⟩)
  clear C5 C6 C7 C8 h h' hs hs'
  unfold eqR
  generalize (r.bytes == q.bytes) = q5 at *
  generalize eqNms r.names q.names = q6 at *
  generalize (r.tags == q.tags) = q7 at *
  generalize (r.kids == q.kids) = q8 at *
  obtain ⟨nm, kind, size, little, bytes, names, tags, kids⟩ := r
  obtain ⟨nm', kind', size', little', bytes', names', tags', kids'⟩ := q
  unfold vrule
  dsimp only at *
  have HB0 := Lib.hid B0; have HB1 := Lib.hid B1; have b00 := B0 _ (Ext.refl _); have b10 := B1 _ (Ext.refl _); clear B0 B1
  cases g1 : (nm.toList == nm'.toList)
  · have h1 : (nm.toList != nm'.toList) = true := by rw [bne, g1]; rfl
    go_enter Try.func69, Try.ntmps69
    go_wp2
    go_ret
    exact ⟨ret_bool (by simp), eb⟩
  have h1 : (nm.toList != nm'.toList) = false := by rw [bne, g1]; rfl
  cases g2 : (kind == kind')
  · have h2 : (kind != kind') = true := by rw [bne, g2]; rfl
    go_enter Try.func69, Try.ntmps69
    go_wp2
    go_ret
    exact ⟨ret_bool (by simp), eb⟩
  have h2 : (kind != kind') = false := by rw [bne, g2]; rfl
  cases g3 : (size == size')
  · have h3 : (size != size') = true := by rw [bne, g3]; rfl
    go_enter Try.func69, Try.ntmps69
    go_wp2
    go_ret
    exact ⟨ret_bool (by simp), eb⟩
  have h3 : (size != size') = false := by rw [bne, g3]; rfl
  cases g4 : (little == little')
  · have h4 : (little != little') = true := by rw [bne, g4]; rfl
    go_enter Try.func69, Try.ntmps69
    go_wp2
    go_ret
    exact ⟨ret_bool (by simp), eb⟩
  have h4 : (little != little') = false := by rw [bne, g4]; rfl
  go_enter Try.func69, Try.ntmps69
  go_wp2_with fail
  refine (K5.out _ eb).mono ?_; rintro _ w5 ⟨rfl, he5⟩
  have e5 := he5
  have b05 := HB0.out _ e5; have b15 := HB1.out _ e5; clear he5 b00 b10 h1 h2 h3 h4 g1 g2 g3 g4
  cases q5
  · go_wp2
    go_ret
    exact ⟨ret_bool (by simp), eb.trans e5⟩
  go_wp2_with fail
  refine (K6.out _ (eb.trans e5)).mono ?_; rintro _ w6 ⟨rfl, he6⟩
  have e6 := e5.trans he6
  have b06 := HB0.out _ e6; have b16 := HB1.out _ e6; clear he6 b05 b15 e5
  cases q6
  · go_wp2
    go_ret
    exact ⟨ret_bool (by simp), eb.trans e6⟩
  go_wp2_with fail
  refine (K7.out _ (eb.trans e6)).mono ?_; rintro _ w7 ⟨rfl, he7⟩
  have e7 := e6.trans he7
  have b07 := HB0.out _ e7; have b17 := HB1.out _ e7; clear he7 b06 b16 e6
  cases q7
  · go_wp2
    go_ret
    exact ⟨ret_bool (by simp), eb.trans e7⟩
  go_wp2_with fail
  refine (K8.out _ (eb.trans e7)).mono ?_; rintro _ w8 ⟨rfl, he8⟩
  have e8 := e7.trans he8
  have b08 := HB0.out _ e8; have b18 := HB1.out _ e8; clear he8 b07 b17 e7
  cases q8
  · go_wp2
    go_ret
    exact ⟨ret_bool (by simp), eb.trans e8⟩
  go_wp2
  go_ret
  exact ⟨ret_bool (by simp), eb.trans e8⟩
end Go.Proofs.Ytalnekcmfagjoaa
