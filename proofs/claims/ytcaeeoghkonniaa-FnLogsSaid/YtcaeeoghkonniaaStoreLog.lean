/- StoreLog, CrashLog and AppendRecord of the program and of the reference. -/
import Derived.Test.YtcaeeoghkonniaaValidLog
import Derived.Test.YtcaeeoghkonniaaMinMax
import Derived.Deep.RegionHeld3
namespace Go.Proofs.Ytcaeeoghkonniaa
open Go.RowKit Go.Sort

theorem grown_setCell (w : World) (a : Addr) (u : Value) : w.grownBy (w.setCell a u) (some a.block) :=
  ⟨rfl, rfl, rfl, by simp, fun k _ hk => heap_setCell_other w a k u (fun e => hk (by rw [e]))⟩
/-- a row of the call's own stays where another block is written -/
theorem OwnL.set {α : Type} {f : α → Value} {e : TypeId} {w0 w : World} {v : Value} {l : List α} (h : OwnL f e w0 w v l) (p : Addr) (u : Value) (hne : v.ownBlock ≠ some p.block) : OwnL f e w0 (w.setCell p u) v l := by
  refine World.ownsRow.kept h (grown_setCell w p u) ?_
  cases hb : v.ownBlock with
  | none => exact .inl rfl
  | some g => right; rw [hb] at hne; exact fun he => hne he
theorem OwnL.lt_ne {α : Type} {f : α → Value} {e : TypeId} {w0 w : World} {v : Value} {l : List α} (h : OwnL f e w0 w v l) {b : Nat} (hb : b < w0.heap.size ∨ w.heap.size ≤ b) : v.ownBlock ≠ some b := by
  intro hv
  have h1 := World.ownsRow.lt h b hv
  omega
theorem OwnL.take {α : Type} {f : α → Value} {e : TypeId} {w0 w : World} {A : Option Addr} {n c : Nat} {l : List α} (h : OwnL f e w0 w (.slice A l.length c) l) (hn : n ≤ l.length) : OwnL f e w0 w (.slice A n c) (l.take n) := by
  have hl : (l.take n).length = n := by simp; omega
  unfold OwnL
  rw [hl]
  refine ⟨by simpa using hl, ?_⟩
  rcases h.2 with ⟨hv, h0⟩ | ⟨g, cap, cur, hv, hb, hg, hnc, hcm, hcs, htake⟩
  · injection hv with h1 _ h3
    subst h1; subst h3
    exact .inl ⟨by rw [show n = 0 by omega], by omega⟩
  · injection hv with h1 _ h3
    subst h1; subst h3
    refine .inr ⟨g, c, cur, rfl, hb, hg, by omega, hcm, hcs, ?_⟩
    have : (cur.toList.take (l.length * 1)).take n = (l.map f).take n := by rw [htake]
    rw [List.take_take, Nat.min_eq_left (by omega)] at this
    rw [Nat.mul_one, this, List.map_take]
/-- what is stored behind StoreLog -/
def storeAt (l : List UInt8) (s : Int) : Int := if validLog l s then l.length else s
set_option maxRecDepth 100000 in
set_option maxHeartbeats 2000000 in
theorem iStoreLog_c (A : Option Addr) (l : List UInt8) (c : Nat) (s : Int) (w : World) (h : Bs w A l c) (hL : l.length ≤ 1099511627776) :
    Calls Try.prog 15 #[vlog (.slice A l.length c) s] w fun e w' => ∃ v, e = .returned (vlog v (storeAt l s)) ∧ OwnL vu8 5 w w' v l ∧ Ext w w' := by
  have hl := h.len
  have eb := Ext_alloc (.cells #[.slice none 0 0, .int .i64 0] 25) (Ext_alloc (.cells #[.slice A l.length c, .int .i64 s] 25) (Ext.refl w))
  have BX := fun w' (e : Ext ((w.alloc (.cells #[.slice A l.length c, .int .i64 s] 25)).alloc (.cells #[.slice none 0 0, .int .i64 0] 25)) w') => boxed2 e
  have B0 := fun w' e => (BX w' e).1
  have B1 := fun w' e => (BX w' e).2.1
  have F1 := fun w' e => (BX w' e).2.2.2.1
  clear BX
  have C1 := Lib.hid (fun w h => iCopyLog_c A l c s w h)
  have C2 := Lib.hid (fun w h => iIsValidLog_c A l c s w h hL)
  unfold storeAt
  unfold vlog at *
  cases hv : validLog l s
  all_goals
    rw [hv] at C2
    go_enter Try.func15, Try.ntmps15
    go_wp2_with fail
    refine (C1.out _ (h.ext eb)).mono ?_; rintro _ w1 ⟨v1, rfl, ho1, he1⟩; obtain ⟨A1, c1, hv1, r1⟩ := OwnL.rd ho1 hl; subst hv1
    have ex := Ext_alloc (.cells #[.slice A1 l.length c1, .int .i64 s] 25) (Ext.refl w1)
    have B2 := fun w' (e : Ext (w1.alloc (.cells #[.slice A1 l.length c1, .int .i64 s] 25)) w') => boxed e
    have F2 := fun w' (e : Ext (w1.alloc (.cells #[.slice A1 l.length c1, .int .i64 s] 25)) w') => boxed_free e
    have e1x := he1.trans ex
    go_wp2_with fail
    refine (C2.out _ (h.ext (eb.trans e1x))).mono ?_; rintro _ w2 ⟨rfl, he2⟩
    have e12 := e1x.trans he2
    have hs1 : w.heap.size + 1 < w1.heap.size := by have := he1.size; simp at this; omega
    have hs2 : w1.heap.size < w2.heap.size := by have := he2.size; simp at this; omega
    have o2 := (OwnL.ext ho1 ex).ext he2
    have HN : Hid ((Value.slice A1 l.length c1).ownBlock ≠ some w1.heap.size) := OwnL.lt_ne ho1 (.inr (Nat.le_refl _))
    have hB0 := B0 _ e12; have hB1 := B1 _ e12; have hF1 := F1 _ e12; have hB2 := B2 _ he2; have hF2 := F2 _ he2
    have hz0 := hB1 0; have hz1 := hB1 1; have hy0 := hB2 0; have hy1 := hB2 1
    simp at hz0 hz1 hy0 hy1
    go_wp2
    first
      | (obtain ⟨s0, s1⟩ := stored2 hB1
         refine bodyPost_ret (v := .agg #[.slice A1 l.length c1, .int .i64 s]) (by simp [results, Try.results15, go_sem, s0, s1]) rfl ⟨_, rfl, ?_, ?_⟩
         · exact OwnL.lower (ownsRow_setCell_below (ownsRow_setCell_below o2 (by simp) _) (by simp) _) eb
         · exact ((eb.trans e12).setCell (by simp) _).setCell (by simp) _)
      | (have hB1' : ∀ u i, (w2.setCell ⟨w1.heap.size, 1, none⟩ u).cell? ⟨w.heap.size + 1, i, none⟩ = #[Value.slice none 0 0, Value.int .i64 0][i]? := by
           intro u i
           have hoth : (w2.setCell ⟨w1.heap.size, 1, none⟩ u).cell? ⟨w.heap.size + 1, i, none⟩ = w2.cell? ⟨w.heap.size + 1, i, none⟩ := by
             apply World.cell?_setCell_other
             intro hh; injection hh with hh; omega
           exact hoth.trans (hB1 i)
         obtain ⟨s0, s1⟩ := stored2 (hB1' (.int .i64 l.length))
         refine bodyPost_ret (v := .agg #[.slice A1 l.length c1, .int .i64 l.length]) (by simp [results, Try.results15, go_sem, s0, s1]) rfl ⟨_, rfl, ?_, ?_⟩
         · exact OwnL.lower (ownsRow_setCell_below (ownsRow_setCell_below (OwnL.set o2 _ _ HN.out) (by simp) _) (by simp) _) eb
         · exact (((eb.trans e12).setCell (by simp; omega) _).setCell (by simp) _).setCell (by simp) _)

set_option maxRecDepth 100000 in
set_option maxHeartbeats 2000000 in
theorem sStoreLog_c (A : Option Addr) (l : List UInt8) (c : Nat) (s : Int) (w : World) (h : Bs w A l c) (hL : l.length ≤ 1099511627776) :
    Calls Try.prog 55 #[vlog (.slice A l.length c) s] w fun e w' => ∃ v, e = .returned (vlog v (storeAt l s)) ∧ OwnL vu8 5 w w' v l ∧ Ext w w' := by
  have hl := h.len
  have eb := Ext_alloc (.cells #[.slice none 0 0, .int .i64 0] 25) (Ext_alloc (.cells #[.slice A l.length c, .int .i64 s] 25) (Ext.refl w))
  have BX := fun w' (e : Ext ((w.alloc (.cells #[.slice A l.length c, .int .i64 s] 25)).alloc (.cells #[.slice none 0 0, .int .i64 0] 25)) w') => boxed2 e
  have B0 := fun w' e => (BX w' e).1
  have B1 := fun w' e => (BX w' e).2.1
  have F1 := fun w' e => (BX w' e).2.2.2.1
  clear BX
  have C1 := Lib.hid (fun w h => sCopyLog_c A l c s w h)
  have C2 := Lib.hid (fun w h => sIsValidLog_c A l c s w h hL)
  unfold storeAt
  unfold vlog at *
  cases hv : validLog l s
  all_goals
    rw [hv] at C2
    go_enter Try.func55, Try.ntmps55
    go_wp2_with fail
    refine (C1.out _ (h.ext eb)).mono ?_; rintro _ w1 ⟨v1, rfl, ho1, he1⟩; obtain ⟨A1, c1, hv1, r1⟩ := OwnL.rd ho1 hl; subst hv1
    have ex := Ext_alloc (.cells #[.slice A1 l.length c1, .int .i64 s] 25) (Ext.refl w1)
    have B2 := fun w' (e : Ext (w1.alloc (.cells #[.slice A1 l.length c1, .int .i64 s] 25)) w') => boxed e
    have F2 := fun w' (e : Ext (w1.alloc (.cells #[.slice A1 l.length c1, .int .i64 s] 25)) w') => boxed_free e
    have e1x := he1.trans ex
    go_wp2_with fail
    refine (C2.out _ (h.ext (eb.trans e1x))).mono ?_; rintro _ w2 ⟨rfl, he2⟩
    have e12 := e1x.trans he2
    have hs1 : w.heap.size + 1 < w1.heap.size := by have := he1.size; simp at this; omega
    have hs2 : w1.heap.size < w2.heap.size := by have := he2.size; simp at this; omega
    have o2 := (OwnL.ext ho1 ex).ext he2
    have HN : Hid ((Value.slice A1 l.length c1).ownBlock ≠ some w1.heap.size) := OwnL.lt_ne ho1 (.inr (Nat.le_refl _))
    have hB0 := B0 _ e12; have hB1 := B1 _ e12; have hF1 := F1 _ e12; have hB2 := B2 _ he2; have hF2 := F2 _ he2
    have hz0 := hB1 0; have hz1 := hB1 1; have hy0 := hB2 0; have hy1 := hB2 1
    simp at hz0 hz1 hy0 hy1
    go_wp2
    first
      | (obtain ⟨s0, s1⟩ := stored2 hB1
         refine bodyPost_ret (v := .agg #[.slice A1 l.length c1, .int .i64 s]) (by simp [results, Try.results55, go_sem, s0, s1]) rfl ⟨_, rfl, ?_, ?_⟩
         · exact OwnL.lower (ownsRow_setCell_below (ownsRow_setCell_below o2 (by simp) _) (by simp) _) eb
         · exact ((eb.trans e12).setCell (by simp) _).setCell (by simp) _)
      | (have hB1' : ∀ u i, (w2.setCell ⟨w1.heap.size, 1, none⟩ u).cell? ⟨w.heap.size + 1, i, none⟩ = #[Value.slice none 0 0, Value.int .i64 0][i]? := by
           intro u i
           have hoth : (w2.setCell ⟨w1.heap.size, 1, none⟩ u).cell? ⟨w.heap.size + 1, i, none⟩ = w2.cell? ⟨w.heap.size + 1, i, none⟩ := by
             apply World.cell?_setCell_other
             intro hh; injection hh with hh; omega
           exact hoth.trans (hB1 i)
         obtain ⟨s0, s1⟩ := stored2 (hB1' (.int .i64 l.length))
         refine bodyPost_ret (v := .agg #[.slice A1 l.length c1, .int .i64 l.length]) (by simp [results, Try.results55, go_sem, s0, s1]) rfl ⟨_, rfl, ?_, ?_⟩
         · exact OwnL.lower (ownsRow_setCell_below (ownsRow_setCell_below (OwnL.set o2 _ _ HN.out) (by simp) _) (by simp) _) eb
         · exact (((eb.trans e12).setCell (by simp; omega) _).setCell (by simp) _).setCell (by simp) _)

/-- where a crashed log is cut, what is stored of it -/
def keptOf (l : List UInt8) (s k : Int) : Nat := (min (max k s) (l.length : Int)).toNat
def crashEnd (l : List UInt8) (s k : Int) : Nat := if validLog l s then stop (l.take (keptOf l s k)) 0 else l.length
def crashAt (l : List UInt8) (s k : Int) : Int := if validLog l s then stop (l.take (keptOf l s k)) 0 else s
theorem keptOf_facts {l : List UInt8} {s k : Int} (h : validLog l s = true) : keptOf l s k ≤ l.length ∧ (if (l.length : Int) < (if k < s then s else k) then (l.length : Int) else (if k < s then s else k)) = (keptOf l s k : Int) ∧
    (if s < (if (l.length : Int) < k then (l.length : Int) else k) then (if (l.length : Int) < k then (l.length : Int) else k) else s) = (keptOf l s k : Int) := by
  have hf := validLog_facts h
  unfold keptOf
  refine ⟨by omega, ?_, ?_⟩
  · split <;> split <;> omega
  · split <;> split <;> omega
theorem crashEnd_le {l : List UInt8} {s k : Int} (h : validLog l s = true) : stop (l.take (keptOf l s k)) 0 ≤ l.length := by
  have h1 := (stop_le (b := l.take (keptOf l s k)) (a := 0) (by omega)).1
  rw [List.length_take] at h1; omega


set_option maxRecDepth 100000 in
set_option maxHeartbeats 4000000 in
theorem iCrashLog_c (A : Option Addr) (l : List UInt8) (c : Nat) (s k : Int) (w : World) (hA : Bs w A l c) (hL : l.length ≤ 1099511627776) :
    Calls Try.prog 6 #[vlog (.slice A l.length c) s, .int .i64 k] w fun e w' => ∃ v, e = .returned (vlog v (crashAt l s k)) ∧ OwnL vu8 5 w w' v (l.take (crashEnd l s k)) ∧ Ext w w' := by
  have hl := hA.len
  have hcap := hA.cap
  have eb := Ext_alloc (.cells #[.slice none 0 0, .int .i64 0] 25) (Ext_alloc (.cells #[.slice A l.length c, .int .i64 s] 25) (Ext.refl w))
  have BX := fun w' (e : Ext ((w.alloc (.cells #[.slice A l.length c, .int .i64 s] 25)).alloc (.cells #[.slice none 0 0, .int .i64 0] 25)) w') => boxed2 e
  have B0 := fun w' e => (BX w' e).1
  have B1 := fun w' e => (BX w' e).2.1
  have F1 := fun w' e => (BX w' e).2.2.2.1
  clear BX
  have C1 := Lib.hid (fun w h => iCopyLog_c A l c s w h)
  have C2 := Lib.hid (fun w h => iIsValidLog_c A l c s w h hL)
  unfold vlog at *
  cases hv : validLog l s
  · have HV : Hid (crashAt l s k = s ∧ l.take (crashEnd l s k) = l) := by
      show _ ∧ _; unfold crashAt crashEnd; rw [hv]; simp
    rw [hv] at C2
    rw [HV.out.1, HV.out.2]
    go_enter Try.func6, Try.ntmps6
    go_wp2_with fail
    refine (C1.out _ (hA.ext eb)).mono ?_; rintro _ w1 ⟨v1, rfl, ho1, he1⟩; obtain ⟨A1, c1, hv1, r1⟩ := OwnL.rd ho1 hl; subst hv1
    have ex := Ext_alloc (.cells #[.slice A1 l.length c1, .int .i64 s] 25) (Ext.refl w1)
    have B2 := fun w' (e : Ext (w1.alloc (.cells #[.slice A1 l.length c1, .int .i64 s] 25)) w') => boxed e
    have e1x := he1.trans ex
    go_wp2_with fail
    refine (C2.out _ (hA.ext (eb.trans e1x))).mono ?_; rintro _ w2 ⟨rfl, he2⟩
    have e12 := e1x.trans he2
    have o2 := (OwnL.ext ho1 ex).ext he2
    have hB1 := B1 _ e12
    go_wp2
    obtain ⟨s0, s1⟩ := stored2 hB1
    refine bodyPost_ret (v := .agg #[.slice A1 l.length c1, .int .i64 s]) (by simp [results, Try.results6, go_sem, s0, s1]) rfl ⟨_, rfl, ?_, ?_⟩
    · exact OwnL.lower (ownsRow_setCell_below (ownsRow_setCell_below o2 (by simp) _) (by simp) _) eb
    · exact ((eb.trans e12).setCell (by simp) _).setCell (by simp) _
  · obtain ⟨m, hm⟩ : ∃ m, keptOf l s k = m := ⟨_, rfl⟩
    obtain ⟨k1, k2, _⟩ := keptOf_facts (k := k) hv
    have k3 := crashEnd_le (k := k) hv
    rw [hm] at k1 k2 k3
    obtain ⟨E, hE⟩ : ∃ E, stop (l.take m) 0 = E := ⟨_, rfl⟩
    rw [hE] at k3
    have HV : Hid (crashAt l s k = E ∧ crashEnd l s k = E) := by
      show _ ∧ _; unfold crashAt crashEnd; rw [hv, hm, hE]; simp
    have CM1 := Lib.hid (fun w => iMax_c k s w)
    obtain ⟨M, hM⟩ : ∃ M, (if k < s then s else k) = M := ⟨_, rfl⟩
    rw [hM] at CM1 k2
    have CM2 := Lib.hid (fun w => iMin_c M (l.length : Int) w)
    rw [k2] at CM2
    clear k2 hM
    have C3 : Hid (∀ A' c' w', Bs w' A' (l.take m) c' → Calls Try.prog 10 #[.slice A' m c'] w' fun e w'' => ∃ v ps, e = .returned (.tuple #[v, .int .i64 (E : Nat)]) ∧ ps.map Prod.fst = recs (l.take m) 0 ∧ OwnR w' w'' v ps ∧ Ext w' w'') := by
      intro A' c' w' h'
      have := iReadRecords_c A' (l.take m) c' w' h' (by simp; omega)
      rw [show (l.take m).length = m by simp; omega, hE] at this
      exact this
    rw [hv] at C2
    rw [HV.out.1, HV.out.2]
    clear hm hE
    go_enter Try.func6, Try.ntmps6
    go_wp2_with fail
    refine (C1.out _ (hA.ext eb)).mono ?_; rintro _ w1 ⟨v1, rfl, ho1, he1⟩; obtain ⟨A1, c1, hv1, r1⟩ := OwnL.rd ho1 hl; subst hv1
    have hc1 := r1.cap
    have ex := Ext_alloc (.cells #[.slice A1 l.length c1, .int .i64 s] 25) (Ext.refl w1)
    have B2 := fun w' (e : Ext (w1.alloc (.cells #[.slice A1 l.length c1, .int .i64 s] 25)) w') => boxed e
    have e1x := he1.trans ex
    go_wp2_with fail
    refine (C2.out _ (hA.ext (eb.trans e1x))).mono ?_; rintro _ w2 ⟨rfl, he2⟩
    have e12 := e1x.trans he2
    go_wp2_with fail
    refine wp_region_quiet_below (by kernel_rfl) (by kernel_rfl) ?_
    repeat (go_big_quiet_step ((first | (go_at_call 25; exact Calls.regrown_of (CM1.out _)) | (go_at_call 24; exact Calls.regrown_of (CM2.out _)))))
    refine wpQuiet_nil ?_
    rintro w3 ⟨⟨nq, osq⟩, hq⟩
    have ew3 := ext_of_q hq
    clear hq nq osq
    have e13 := e12.trans ew3
    have e23 := he2.trans ew3
    go_wp2_with fail
    refine (C3.out _ _ _ ((hA.ext (eb.trans e13)).take m)).mono ?_; rintro _ w4 ⟨v4, p4, rfl, _, _, he4⟩
    have e14 := e13.trans he4
    have e24 := e23.trans he4
    have o4 := OwnL.ext (OwnL.take ho1 k3) (ex.trans e24)
    have hB1 := B1 _ e14
    go_wp2
    obtain ⟨s0, s1⟩ := stored2 hB1
    refine bodyPost_ret (v := .agg #[.slice A1 E c1, .int .i64 E]) (by simp [results, Try.results6, go_sem, s0, s1]) rfl ⟨_, rfl, ?_, ?_⟩
    · exact OwnL.lower (ownsRow_setCell_below (ownsRow_setCell_below o4 (by simp) _) (by simp) _) eb
    · exact ((eb.trans e14).setCell (by simp) _).setCell (by simp) _
end Go.Proofs.Ytcaeeoghkonniaa
