/- EncodeRecord of the program and of the reference. -/
import Derived.Test.YtcaeeoghkonniaaEnc
namespace Go.Proofs.Ytcaeeoghkonniaa
open Go.RowKit Go.Sort

/-- a row of a literal is the call's own -/
theorem OwnL.lit {α : Type} {f : α → Value} {e : TypeId} {w0 w : World} (he : Ext w0 w) (ys : List α) (cs : Array Value) (hcs : cs = (ys.map f).toArray) (m : Nat) (hm : m = ys.length) (hl : m ≤ 1000) :
    OwnL f e w0 (w.alloc (.cells cs e)) (.slice (some ⟨w.heap.size, 0, none⟩) m m) ys := by
  subst hcs; subst hm
  exact ⟨by simp, .inr ⟨w.heap.size, ys.length, _, rfl, he.size, heap_alloc_new w _, by omega, by simp only [maxLen]; omega, by simp, by simp [List.take_of_length_le]⟩⟩

set_option maxRecDepth 100000 in
set_option maxHeartbeats 2000000 in
theorem iEncodeRecord_c (k : Int) (nm : ByteArray) (ver : Int) (A : Option Addr) (l : List UInt8) (c : Nat) (w : World) (h : Bs w A l c) (hn : nm.size ≤ 9223372036854775807) :
    Calls Try.prog 35 #[vrec k nm ver (.slice A l.length c)] w fun e w' => ∃ v, e = .returned v ∧ OwnL vu8 5 w w' v (encRec k nm ver l) ∧ Ext w w' := by
  have C1 := Lib.hid (fun w => iIsValidRecord_c k nm ver A l c w h.len hn)
  have B := fun w' (e : Ext (w.alloc (.cells #[.int .i64 k, .string nm, .int .i64 ver, .slice A l.length c] 36)) w') => boxed e
  have eb := Ext_alloc (.cells #[.int .i64 k, .string nm, .int .i64 ver, .slice A l.length c] 36) (Ext.refl w)
  unfold encRec
  cases hv : validRec k nm ver l.length
  · rw [hv] at C1
    unfold vrec at C1 ⊢
    go_enter Try.func35, Try.ntmps35
    go_wp2_with (first
      | (go_at_call 34; refine (C1.out _).mono ?_; rintro _ w1 ⟨rfl, he1⟩))
    go_ret
    exact ⟨_, rfl, OwnL.empty (eb.trans he1), Ext_alloc _ (eb.trans he1)⟩
  · rw [hv] at C1
    have C2 := Lib.hid (fun w' (e : Ext w w') => iPackBytes_c A l c w' (h.ext e) (by have := validRec_facts hv; omega))
    have HPL : Hid ((pack l).length ≤ 140737488351232) := by
      have hf := validRec_facts hv
      have hp := pack_le l
      show _ ≤ _; omega
    have hpl : (pack l).length ≤ 800 := by
      have hf := validRec_facts hv
      have hp := pack_le l
      omega
    have hf := validRec_facts hv
    have H0 : Hid (#[Value.int .u8 (k % 256), Value.int .u8 ((nm.size : Int) % 256)] = ([UInt8.ofNat k.toNat, UInt8.ofNat nm.size].map vu8).toArray) := by
      show _ = _
      simp [vu8, UInt8.toNat_ofNat']; omega
    have H1 : Hid (#[Value.int .u8 (ver % 256), Value.int .u8 (((pack l).length : Int) / 256), Value.int .u8 (((pack l).length : Int) % 256)] = ([UInt8.ofNat ver.toNat, UInt8.ofNat ((pack l).length / 256), UInt8.ofNat (pack l).length].map vu8).toArray) := by
      show _ = _
      simp [vu8, UInt8.toNat_ofNat']; omega
    have HN : Hid (([UInt8.ofNat k.toNat, UInt8.ofNat nm.size].length + nm.size) ≤ 140737488355328) := by
      show _ ≤ _
      simp; omega
    have HE : Hid (([UInt8.ofNat k.toNat, UInt8.ofNat nm.size] ++ nm.data.toList) ++ [UInt8.ofNat ver.toNat, UInt8.ofNat ((pack l).length / 256), UInt8.ofNat (pack l).length] ++ pack l = encBody k nm ver l) := by
      show _ = _; unfold encBody be2; simp
    have HBL : Hid ((encBody k nm ver l).length = nm.size + 5 + (pack l).length) := encBody_length k nm ver l
    have HS : Hid (#[Value.int .u8 ((sumB (encBody k nm ver l) : Int) % 256)] = ([UInt8.ofNat (sumB (encBody k nm ver l))].map vu8).toArray) := by
      show _ = _
      simp [vu8, UInt8.toNat_ofNat']
    generalize hP : pack l = P at *
    have HP := Lib.hid hP; clear hP
    have HN1 : Hid (((([UInt8.ofNat k.toNat, UInt8.ofNat nm.size] ++ nm.data.toList).length + [UInt8.ofNat ver.toNat, UInt8.ofNat (P.length / 256), UInt8.ofNat P.length].length) * 1) ≤ 140737488355328) := by
      show _ ≤ _
      simp; omega
    have HN2 : Hid ((((([UInt8.ofNat k.toNat, UInt8.ofNat nm.size] ++ nm.data.toList) ++ [UInt8.ofNat ver.toNat, UInt8.ofNat (P.length / 256), UInt8.ofNat P.length]).length + P.length) * 1) ≤ 140737488355328) := by
      show _ ≤ _
      simp; omega
    have HN3 : Hid (((encBody k nm ver l).length + [UInt8.ofNat (sumB (encBody k nm ver l))].length) * 1 ≤ 140737488355328) := by
      show _ ≤ _
      rw [HBL.out]; simp; omega
    have HN4 : Hid ((encBody k nm ver l).length ≤ 1099511627776) := by
      show _ ≤ _
      rw [HBL.out]; omega
    generalize encBody k nm ver l = EB at *
    clear HBL hf
    unfold vrec at C1 ⊢
    go_enter Try.func35, Try.ntmps35
    go_wp2_with (first
      | (go_at_call 34; refine (C1.out _).mono ?_; rintro _ w1 ⟨rfl, he1⟩)
      | (go_at_call 52; refine (C2.out _ (eb.trans (by assumption))).mono ?_; rintro _ w2 ⟨v2, rfl, ho2, he2⟩; have he12 := he1.trans he2; obtain ⟨A2, c2, rfl, hr2⟩ := OwnL.rd ho2 HPL.out)
      | (at_builtin; refine wpList_appS rfl (.tmp 20) (.tmp 22) _ _ rfl E_u8 rfl w2 _ _ rfl nm rfl [UInt8.ofNat k.toNat, UInt8.ofNat nm.size] (OwnL.lit (Ext.refl w2) _ _ H0.out 2 rfl (by omega)) (Ext_alloc _ (Ext.refl w2)) HN.out ?_; intro v3 w3 ho3 he3; have he13 := he12.trans he3)
      | (at_builtin; refine wpList_appN rfl (.tmp 24) (.tmp 35) _ rfl E_u8 (by omega) w2 _ vu8 (fun _ => rfl) _ rfl _ _ rfl ([UInt8.ofNat k.toNat, UInt8.ofNat nm.size] ++ nm.data.toList) [UInt8.ofNat ver.toNat, UInt8.ofNat (P.length / 256), UInt8.ofNat P.length] _ H1.out ho3 he3 rfl HN1.out ?_; intro v4 w4 ho4 he4; have he14 := he12.trans he4)
      | (at_builtin; refine wpList_appL rfl (.tmp 37) (.tmp 38) _ rfl E_u8 (by omega) w2 _ vu8 (fun _ => rfl) _ rfl _ _ _ rfl (([UInt8.ofNat k.toNat, UInt8.ofNat nm.size] ++ nm.data.toList) ++ [UInt8.ofNat ver.toNat, UInt8.ofNat (P.length / 256), UInt8.ofNat P.length]) P ho4 he4 rfl (hr2.src he4) HN2.out ?_; intro v5 w5 ho5 he5 _ _; rw [HE.out] at ho5; obtain ⟨A5, c5, hv5, hr5⟩ := ho5.rd (by have := HN4.out; omega); subst hv5; have he15 := he12.trans he5)
      | (go_at_call 53; refine (iSumOfBytes_c _ _ _ _ hr5 HN4.out).mono ?_; rintro _ w6 ⟨rfl, he6⟩; have ho6 := ho5.ext he6; have he56 := he5.trans he6)
      | (at_builtin; refine wpList_appN rfl (.tmp 40) (.tmp 44) _ rfl E_u8 (by omega) w2 _ vu8 (fun _ => rfl) _ rfl _ _ rfl EB [UInt8.ofNat (sumB EB)] _ HS.out ho6 he56 rfl HN3.out ?_; intro v7 w7 ho7 he7)
      | (at_builtin; trace_state; fail))
    go_ret
    exact ⟨_, rfl, ho7.lower (eb.trans he12), (eb.trans he12).trans he7⟩

set_option maxRecDepth 100000 in
set_option maxHeartbeats 2000000 in
theorem sEncodeRecord_c (k : Int) (nm : ByteArray) (ver : Int) (A : Option Addr) (l : List UInt8) (c : Nat) (w : World) (h : Bs w A l c) (hn : nm.size ≤ 9223372036854775807) :
    Calls Try.prog 48 #[vrec k nm ver (.slice A l.length c)] w fun e w' => ∃ v, e = .returned v ∧ OwnL vu8 5 w w' v (encRec k nm ver l) ∧ Ext w w' := by
  have C1 := Lib.hid (fun w => sIsValidRecord_c k nm ver A l c w h.len hn)
  have B := fun w' (e : Ext (w.alloc (.cells #[.int .i64 k, .string nm, .int .i64 ver, .slice A l.length c] 36)) w') => boxed e
  have eb := Ext_alloc (.cells #[.int .i64 k, .string nm, .int .i64 ver, .slice A l.length c] 36) (Ext.refl w)
  unfold encRec
  cases hv : validRec k nm ver l.length
  · rw [hv] at C1
    unfold vrec at C1 ⊢
    go_enter Try.func48, Try.ntmps48
    go_wp2_with (first
      | (go_at_call 16; refine (C1.out _).mono ?_; rintro _ w1 ⟨rfl, he1⟩))
    go_ret
    exact ⟨_, rfl, OwnL.empty (eb.trans he1), Ext_alloc _ (eb.trans he1)⟩
  · rw [hv] at C1
    have C2 := Lib.hid (fun w' (e : Ext w w') => sPackBytes_c A l c w' (h.ext e) (by have := validRec_facts hv; omega))
    have hf := validRec_facts hv
    have hpl : (pack l).length ≤ 800 := by
      have hp := pack_le l
      omega
    have HPL : Hid ((pack l).length ≤ 140737488351232) := by
      show _ ≤ _; omega
    have H0 : Hid (#[Value.int .u8 (k % 256), Value.int .u8 ((nm.size : Int) % 256)] = ([UInt8.ofNat k.toNat, UInt8.ofNat nm.size].map vu8).toArray) := by
      show _ = _
      simp [vu8, UInt8.toNat_ofNat']; omega
    have H1 : Hid (#[Value.int .u8 (ver % 256)] = ([UInt8.ofNat ver.toNat].map vu8).toArray) := by
      show _ = _
      simp [vu8, UInt8.toNat_ofNat']; omega
    have HNS : Hid (nm.size ≤ 140737488351232) := by show _ ≤ _; omega
    have HNL : Hid (nm.size = nm.data.toList.length) := by show _ = _; simp
    have HN : Hid (([UInt8.ofNat k.toNat, UInt8.ofNat nm.size].length + nm.data.toList.length) * 1 ≤ 140737488355328) := by
      show _ ≤ _
      simp; omega
    have HN1 : Hid (((([UInt8.ofNat k.toNat, UInt8.ofNat nm.size] ++ nm.data.toList).length + [UInt8.ofNat ver.toNat].length) * 1) ≤ 140737488355328) := by
      show _ ≤ _
      simp; omega
    have HE : Hid (([UInt8.ofNat k.toNat, UInt8.ofNat nm.size] ++ nm.data.toList) ++ [UInt8.ofNat ver.toNat] ++ be2 (pack l).length ++ pack l = encBody k nm ver l) := rfl
    have HBL : Hid ((encBody k nm ver l).length = nm.size + 5 + (pack l).length) := encBody_length k nm ver l
    have HS : Hid (#[Value.int .u8 ((sumB (encBody k nm ver l) : Int) % 256)] = ([UInt8.ofNat (sumB (encBody k nm ver l))].map vu8).toArray) := by
      show _ = _
      simp [vu8, UInt8.toNat_ofNat']
    generalize hP : pack l = P at *
    have HP := Lib.hid hP; clear hP
    have HBE : Hid (P.length ≤ 65535) := by show _ ≤ _; omega
    have hbe : (be2 P.length).length = 2 := rfl
    have HN2 : Hid ((((([UInt8.ofNat k.toNat, UInt8.ofNat nm.size] ++ nm.data.toList) ++ [UInt8.ofNat ver.toNat]).length + (be2 P.length).length) * 1) ≤ 140737488355328) := by
      show _ ≤ _
      simp; omega
    have HN2b : Hid ((((([UInt8.ofNat k.toNat, UInt8.ofNat nm.size] ++ nm.data.toList) ++ [UInt8.ofNat ver.toNat] ++ be2 P.length).length + P.length) * 1) ≤ 140737488355328) := by
      show _ ≤ _
      simp; omega
    have HB2 := Lib.hid hbe; clear hbe
    generalize hBE : be2 P.length = BE at *
    have HBQ := Lib.hid hBE; clear hBE
    have CB := Lib.hid (fun w => BigEndian2_c P.length w HBE.out)
    rw [HBQ.out] at CB
    have HN3 : Hid (((encBody k nm ver l).length + [UInt8.ofNat (sumB (encBody k nm ver l))].length) * 1 ≤ 140737488355328) := by
      show _ ≤ _
      rw [HBL.out]; simp; omega
    have HN4 : Hid ((encBody k nm ver l).length ≤ 140737488351232) := by
      show _ ≤ _
      rw [HBL.out]; omega
    generalize encBody k nm ver l = EB at *
    clear HBL hf
    unfold vrec at C1 ⊢
    go_enter Try.func48, Try.ntmps48
    go_wp2_with (first
      | (go_at_call 16; refine (C1.out _).mono ?_; rintro _ w1 ⟨rfl, he1⟩)
      | (go_at_call 57; refine (C2.out _ (eb.trans (by assumption))).mono ?_; rintro _ w2 ⟨v2, rfl, ho2, he2⟩; have he12 := he1.trans he2; obtain ⟨A2, c2, rfl, hr2⟩ := OwnL.rd ho2 HPL.out)
      | (refine wpList_bytesOf rfl (.tmp 21) 9 22 rfl rfl rfl rfl _ nm rfl HNS.out ?_; intro c3 w3 hr3 he3; have hl3 := (OwnL.lit (Ext.refl w2) _ _ H0.out 2 rfl (by omega)).ext he3; have he23 := (Ext_alloc _ (Ext.refl w2)).trans he3; have he13 := he12.trans he23)
      | (at_builtin; refine wpList_appL rfl (.tmp 19) (.tmp 22) _ rfl E_u8 (by omega) w2 _ vu8 (fun _ => rfl) _ rfl _ _ _ rfl [UInt8.ofNat k.toNat, UInt8.ofNat nm.size] nm.data.toList hl3 he23 HNL.out (hr3.src (Ext.refl _)) HN.out ?_; intro v4 w4 ho4 he4 _ _; have he14 := he12.trans he4)
      | (at_builtin; refine wpList_appN rfl (.tmp 24) (.tmp 28) _ rfl E_u8 (by omega) w2 _ vu8 (fun _ => rfl) _ rfl _ _ rfl ([UInt8.ofNat k.toNat, UInt8.ofNat nm.size] ++ nm.data.toList) [UInt8.ofNat ver.toNat] _ H1.out ho4 he4 rfl HN1.out ?_; intro v5 w5 ho5 he5; have he15 := he12.trans he5)
      | (go_at_call 58; refine (CB.out _).mono ?_; rintro _ w6 ⟨v6, rfl, ho6, he6⟩; obtain ⟨A6, c6, hv6, hr6⟩ := OwnL.rd ho6 (by rw [HB2.out]; omega); subst hv6; have hp5 := ho5.ext he6; have he26 := he5.trans he6; have he16 := he12.trans he26)
      | (at_builtin; refine wpList_appL rfl (.tmp 29) (.tmp 32) _ rfl E_u8 (by omega) w2 _ vu8 (fun _ => rfl) _ rfl _ _ _ rfl (([UInt8.ofNat k.toNat, UInt8.ofNat nm.size] ++ nm.data.toList) ++ [UInt8.ofNat ver.toNat]) BE hp5 he26 rfl (hr6.src (Ext.refl _)) HN2.out ?_; intro v7 w7 ho7 he7 _ _; have he17 := he12.trans he7)
      | (at_builtin; refine wpList_appL rfl (.tmp 33) (.tmp 34) _ rfl E_u8 (by omega) w2 _ vu8 (fun _ => rfl) _ rfl _ _ _ rfl (([UInt8.ofNat k.toNat, UInt8.ofNat nm.size] ++ nm.data.toList) ++ [UInt8.ofNat ver.toNat] ++ BE) P ho7 he7 rfl (hr2.src he7) HN2b.out ?_; intro v8 w8 ho8 he8 _ _; rw [HE.out] at ho8; obtain ⟨A8, c8, hv8, hr8⟩ := ho8.rd HN4.out; subst hv8; have he18 := he12.trans he8)
      | (go_at_call 59; refine (sSumOfBytes_c _ _ _ _ hr8).mono ?_; rintro _ w9 ⟨rfl, he9⟩; have ho9 := ho8.ext he9; have he29 := he8.trans he9)
      | (at_builtin; refine wpList_appN rfl (.tmp 36) (.tmp 40) _ rfl E_u8 (by omega) w2 _ vu8 (fun _ => rfl) _ rfl _ _ rfl EB [UInt8.ofNat (sumB EB)] _ HS.out ho9 he29 rfl HN3.out ?_; intro v10 w10 ho10 he10))
    go_ret
    exact ⟨_, rfl, ho10.lower (eb.trans he12), (eb.trans he12).trans he10⟩

end Go.Proofs.Ytcaeeoghkonniaa
