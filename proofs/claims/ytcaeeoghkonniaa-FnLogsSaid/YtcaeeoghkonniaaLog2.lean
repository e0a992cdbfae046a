/- Logs: CountRecords, IsValidLog of the reference, copies. -/
import Derived.Test.YtcaeeoghkonniaaRead
import Derived.Test.YtcaeeoghkonniaaLog
import Derived.Test.YtcaeeoghkonniaaMarkRec
namespace Go.Proofs.Ytcaeeoghkonniaa
open Go.RowKit Go.Sort

set_option maxHeartbeats 400000 in
theorem iCountRecords_c (A : Option Addr) (l : List UInt8) (c : Nat) (s : Int) (w : World) (h : Bs w A l c) (hL : l.length ≤ 1099511627776) :
    Gives Try.prog 17 #[vlog (.slice A l.length c) s] w (.int .i64 (recs l 0).length) := by
  have C := Lib.hid (fun w h => iReadRecords_c A l c w h hL)
  have eb := Ext_alloc (.cells #[.slice A l.length c, .int .i64 s] 25) (Ext.refl w)
  unfold vlog
  go_enter Try.func17, Try.ntmps17
  go_wp2_with fail
  refine (C.out _ (h.ext eb)).mono ?_; rintro _ w1 ⟨v1, ps, rfl, hps, ho1, he1⟩
  obtain ⟨A1, c1, rfl⟩ := ho1.shape
  have hl := congrArg List.length hps
  rw [List.length_map] at hl
  have HL := Lib.hid hl; clear hl hps
  go_wp2
  go_ret
  exact ⟨ret_i64 (by rw [HL.out]), eb.trans he1⟩


/-- a block of two cells, written one by one -/
theorem stored2 {w1 : World} {g : Nat} {x0 x1 : Value} (h : ∀ i, w1.cell? ⟨g, i, none⟩ = #[x0, x1][i]?) :
    (∀ y0, (w1.setCell ⟨g, 0, none⟩ y0).cell? ⟨g, 0, none⟩ = some y0) ∧ (∀ y0 y1, ((w1.setCell ⟨g, 0, none⟩ y0).setCell ⟨g, 1, none⟩ y1).cell? ⟨g, 1, none⟩ = some y1) := by
  have h0 := h 0; have h1 := h 1
  simp at h0 h1
  refine ⟨fun y0 => ?_, fun y0 y1 => ?_⟩
  · apply World.cell?_setCell_same; exact h0
  · apply World.cell?_setCell_same (u := x1); simp [World.cell?_setCell_other, h1]
set_option maxRecDepth 100000 in
set_option maxHeartbeats 2000000 in
theorem iCopyLog_c (A : Option Addr) (l : List UInt8) (c : Nat) (s : Int) (w : World) (h : Bs w A l c) :
    Calls Try.prog 23 #[vlog (.slice A l.length c) s] w fun e w' => ∃ v, e = .returned (vlog v s) ∧ OwnL vu8 5 w w' v l ∧ Ext w w' := by
  have hl := h.len
  have eb := Ext_alloc (.cells #[.slice none 0 0, .int .i64 0] 25) (Ext_alloc (.cells #[.slice A l.length c, .int .i64 s] 25) (Ext.refl w))
  have H := Lib.hid h
  have BX := fun w' (e : Ext ((w.alloc (.cells #[.slice A l.length c, .int .i64 s] 25)).alloc (.cells #[.slice none 0 0, .int .i64 0] 25)) w') => boxed2 e
  have B0 := fun w' e => (BX w' e).1
  have B1 := fun w' e => (BX w' e).2.1
  have F1 := fun w' e => (BX w' e).2.2.2.1
  have HO : Hid (OwnL vu8 5 ((w.alloc (.cells #[.slice A l.length c, .int .i64 s] 25)).alloc (.cells #[.slice none 0 0, .int .i64 0] 25)) ((((w.alloc (.cells #[.slice A l.length c, .int .i64 s] 25)).alloc (.cells #[.slice none 0 0, .int .i64 0] 25)).alloc (.cells #[] 5)).drew) (.slice (some ⟨w.heap.size + 1 + 1, 0, none⟩) 0 0) []) := by
    have := OwnL.ext (OwnL.empty (f := vu8) (e := 5) (Ext.refl ((w.alloc (.cells #[.slice A l.length c, .int .i64 s] 25)).alloc (.cells #[.slice none 0 0, .int .i64 0] 25)))) (Ext_drew (Ext.refl _))
    simpa [Hid] using this
  have HB : Hid (([] : List UInt8).length + l.length ≤ 140737488355328 / 1) := by show _ ≤ _; simp; omega
  have HB2 : Hid ((([] : List UInt8).length + l.length) * 1 ≤ 140737488355328) := by show _ ≤ _; simp; omega
  clear BX
  unfold vlog
  go_enter Try.func23, Try.ntmps23
  go_wp2_with fail
  go_region_law (first
    | (refine step_appL rfl (.tmp 3) (.tmp 5) _ rfl E_u8 (by omega) _ _ vu8 (fun _ => rfl) _ rfl _ _ _ rfl [] l HO.out (Ext_drew (Ext_alloc _ (Ext.refl _))) rfl ((H.out.ext eb).src (Ext_drew (Ext_alloc _ (Ext.refl _)))) HB2.out ?_; intro v4 w4 ho4 he4; rw [List.nil_append] at ho4; obtain ⟨A4, c4, hv4, r4⟩ := OwnL.rd ho4 hl; subst hv4))
  all_goals
    go_wp2
    obtain ⟨s0, s1⟩ := stored2 (B1 _ he4)
    refine bodyPost_ret (v := .agg #[.slice A4 l.length c4, .int .i64 s]) (by simp [results, Try.results23, go_sem, s0, s1]) rfl ⟨_, rfl, ?_, ?_⟩
    · exact OwnL.lower (ownsRow_setCell_below (ownsRow_setCell_below ho4 (by simp) _) (by simp) _) eb
    · exact ((eb.trans he4).setCell (by simp) _).setCell (by simp) _

set_option maxRecDepth 100000 in
set_option maxHeartbeats 2000000 in
theorem sCopyLog_c (A : Option Addr) (l : List UInt8) (c : Nat) (s : Int) (w : World) (h : Bs w A l c) :
    Calls Try.prog 63 #[vlog (.slice A l.length c) s] w fun e w' => ∃ v, e = .returned (vlog v s) ∧ OwnL vu8 5 w w' v l ∧ Ext w w' := by
  have hl := h.len
  have eb := Ext_alloc (.cells #[.slice none 0 0, .int .i64 0] 25) (Ext_alloc (.cells #[.slice A l.length c, .int .i64 s] 25) (Ext.refl w))
  have H := Lib.hid h
  have BX := fun w' (e : Ext ((w.alloc (.cells #[.slice A l.length c, .int .i64 s] 25)).alloc (.cells #[.slice none 0 0, .int .i64 0] 25)) w') => boxed2 e
  have B0 := fun w' e => (BX w' e).1
  have B1 := fun w' e => (BX w' e).2.1
  have F1 := fun w' e => (BX w' e).2.2.2.1
  have HO : Hid (OwnL vu8 5 ((w.alloc (.cells #[.slice A l.length c, .int .i64 s] 25)).alloc (.cells #[.slice none 0 0, .int .i64 0] 25)) ((((w.alloc (.cells #[.slice A l.length c, .int .i64 s] 25)).alloc (.cells #[.slice none 0 0, .int .i64 0] 25)).alloc (.cells #[] 5)).drew) (.slice (some ⟨w.heap.size + 1 + 1, 0, none⟩) 0 0) []) := by
    have := OwnL.ext (OwnL.empty (f := vu8) (e := 5) (Ext.refl ((w.alloc (.cells #[.slice A l.length c, .int .i64 s] 25)).alloc (.cells #[.slice none 0 0, .int .i64 0] 25)))) (Ext_drew (Ext.refl _))
    simpa [Hid] using this
  have HB : Hid (([] : List UInt8).length + l.length ≤ 140737488355328 / 1) := by show _ ≤ _; simp; omega
  have HB2 : Hid ((([] : List UInt8).length + l.length) * 1 ≤ 140737488355328) := by show _ ≤ _; simp; omega
  clear BX
  unfold vlog
  go_enter Try.func63, Try.ntmps63
  go_wp2_with fail
  go_region_law (first
    | (refine step_appL rfl (.tmp 3) (.tmp 5) _ rfl E_u8 (by omega) _ _ vu8 (fun _ => rfl) _ rfl _ _ _ rfl [] l HO.out (Ext_drew (Ext_alloc _ (Ext.refl _))) rfl ((H.out.ext eb).src (Ext_drew (Ext_alloc _ (Ext.refl _)))) HB2.out ?_; intro v4 w4 ho4 he4; rw [List.nil_append] at ho4; obtain ⟨A4, c4, hv4, r4⟩ := OwnL.rd ho4 hl; subst hv4))
  all_goals
    go_wp2
    obtain ⟨s0, s1⟩ := stored2 (B1 _ he4)
    refine bodyPost_ret (v := .agg #[.slice A4 l.length c4, .int .i64 s]) (by simp [results, Try.results63, go_sem, s0, s1]) rfl ⟨_, rfl, ?_, ?_⟩
    · exact OwnL.lower (ownsRow_setCell_below (ownsRow_setCell_below ho4 (by simp) _) (by simp) _) eb
    · exact ((eb.trans he4).setCell (by simp) _).setCell (by simp) _

theorem Rd.take {α : Type} {f : α → Value} {w : World} {A : Option Addr} {l : List α} {c : Nat} (h : Rd f w A l c) (n : Nat) : Rd f w A (l.take n) c := by
  have hn : (l.take n).length ≤ l.length := by simp; omega
  refine ⟨⟨by have := h.cap; omega, by have := h.1.2.1; omega, fun hp => ?_⟩, by have := h.len; omega⟩
  obtain ⟨b, off, h1, h2, h3⟩ := h.base (by omega)
  refine ⟨b, off, h1, h2, fun w' e i hi => ?_⟩
  rw [h3 w' e i (by omega)]
  simp
theorem Rd.none {α : Type} {f : α → Value} {l : List α} (hl : l.length = 0) (w : World) (A : Option Addr) (c : Nat) : Rd f w A l c := ⟨⟨by omega, by omega, fun h => by omega⟩, by omega⟩
set_option maxRecDepth 100000 in
set_option maxHeartbeats 2000000 in
theorem sIsValidLog_c (A : Option Addr) (l : List UInt8) (c : Nat) (s : Int) (w : World) (h : Bs w A l c) (hL : l.length ≤ 1099511627776) :
    Gives Try.prog 7 #[vlog (.slice A l.length c) s] w (.bool (validLog l s)) := by
  have hl := h.len
  have hcap := h.cap
  have eb := Ext_alloc (.cells #[.slice A l.length c, .int .i64 s] 25) (Ext.refl w)
  have B := fun w' (e : Ext (w.alloc (.cells #[.slice A l.length c, .int .i64 s] 25)) w') => boxed e
  by_cases hs : s < 0 ∨ (l.length : Int) < s
  · have HI : Hid ((decide (0 ≤ s) && decide (s ≤ (l.length : Int))) = false) := by
      show _ = _; rw [Bool.and_eq_false_iff]; simp; omega
    have HV : Hid (validLog l s = false) := validLog_out hs
    rw [HV.out]
    clear hs
    unfold vlog
    go_enter Try.func7, Try.ntmps7
    go_wp2_with (go_at_call 26; refine (l1In_c _ _ _ _).mono ?_; rintro _ w1 ⟨rfl, he1⟩; rw [HI.out])
    go_ret
    exact ⟨rfl, eb.trans he1⟩
  · obtain ⟨n, rfl⟩ := Int.eq_ofNat_of_zero_le (show 0 ≤ s by omega)
    have hn : n ≤ l.length := by omega
    clear hs
    have HI : Hid ((decide ((0 : Int) ≤ (n : Int)) && decide ((n : Int) ≤ (l.length : Int))) = true) := by
      show _ = _; simp; omega
    have HV : Hid (validLog l (n : Int) = (((stop l 0 : Int) == (l.length : Int)) && ((stop (l.take n) 0 : Int) == (n : Int)))) := by
      show _ = _; rw [validLog_eq hn]; unfold endsAt; rw [Bool.eq_iff_iff]; simp; omega
    have C1 := Lib.hid (fun w h => sReadRecords_c A l c w h hL)
    have C2 : Hid (∀ A' c' w', Bs w' A' (l.take n) c' → Calls Try.prog 11 #[.slice A' n c'] w' fun e w'' => ∃ v ps, e = .returned (.tuple #[v, .int .i64 (stop (l.take n) 0 : Nat)]) ∧ ps.map Prod.fst = recs (l.take n) 0 ∧ OwnR w' w'' v ps ∧ Ext w' w'') := by
      intro A' c' w' h'
      have := sReadRecords_c A' (l.take n) c' w' h' (by simp; omega)
      rw [show (l.take n).length = n by simp; omega] at this
      exact this
    rw [HV.out]
    generalize stop (l.take n) 0 = s2 at *
    generalize recs (l.take n) 0 = r2 at *
    generalize stop l 0 = s1 at *
    generalize recs l 0 = r1 at *
    unfold vlog
    go_enter Try.func7, Try.ntmps7
    go_wp2_with (first
      | (go_at_call 26; refine (l1In_c _ _ _ _).mono ?_; rintro _ w1 ⟨rfl, he1⟩; rw [HI.out]))
    refine (C1.out _ (h.ext (eb.trans he1))).mono ?_; rintro _ w2 ⟨v2, p2, rfl, _, _, he2⟩; have he12 := he1.trans he2
    go_wp2_with fail
    refine (C2.out _ _ _ ((h.ext (eb.trans he12)).take n)).mono ?_; rintro _ w3 ⟨v3, p3, rfl, _, _, he3⟩; have he13 := he12.trans he3
    go_wp2
    all_goals
      go_ret
      exact ⟨ret_bool (by simp [*]), eb.trans he13⟩
end Go.Proofs.Ytcaeeoghkonniaa
