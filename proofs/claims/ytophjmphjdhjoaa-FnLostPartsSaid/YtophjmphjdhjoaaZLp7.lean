/- Sequences and choices. -/
import Derived.Test.YtophjmphjdhjoaaZLp6
set_option linter.unusedVariables false
set_option linter.unusedSimpArgs false
namespace Go.Proofs.Ytophjmphjdhjoaa
open Go.RowKit Go.Sort

theorem RdS.lens {w : World} {r : DRule} {Ab : Option Addr} {cb : Nat} {An : Option Addr} {cn : Nat} {At : Option Addr} {ct : Nat} {Ak : Option Addr} {ck : Nat} (h : RdS w r Ab cb An cn At ct Ak ck) :
    r.bytes.length ≤ 9223372036854775807 ∧ r.names.length ≤ 9223372036854775807 ∧ r.tags.length ≤ 9223372036854775807 ∧ r.kids.length ≤ 9223372036854775807 := ⟨h.b.len, h.n.len, h.t.len, h.k.len⟩
theorem Rd0.take {α : Type} {f : α → Value} {w : World} {A : Option Addr} {l : List α} {c : Nat} (h : Rd0 f w A l c) (n : Nat) (hn : n ≤ l.length) : Rd0 f w A (l.take n) c := by
  have hl : (l.take n).length = n := by simp; omega
  refine ⟨by have := h.cap; omega, by have := h.len; omega, fun hp => ?_⟩
  obtain ⟨b, off, h1, h2, h3⟩ := h.2.2 (by omega)
  refine ⟨b, off, h1, h2, fun w' e i hi => ?_⟩
  rw [h3 w' e i (by omega)]
  simp
theorem nameOk_at {l : List ByteArray} {k : Nat} (h : k < l.length) : nameOk l k = (isName l[k] && !hasNm (l.take k) l[k]) := by
  unfold nameOk; rw [List.getElem?_eq_getElem h]
theorem tagOk_at {lim : Int} {l : List Int} {k : Nat} (h : k < l.length) : tagOk lim l k = (between l[k] 0 lim && (k == 0 || decide (l.getD (k - 1) 0 < l[k]))) := by
  unfold tagOk; rw [List.getElem?_eq_getElem h]
/-- the names of a sequence, of the reference -/
def namesB (l : List ByteArray) : Bool := between l.length 1 8 && allN l.length (nameOk l)
set_option maxRecDepth 100000 in
set_option maxHeartbeats 2000000 in
theorem sNames_c (A : Option Addr) (l : List ByteArray) (c : Nat) (w : World) (h : Rd0 vstr w A l c) (hw : ∀ s ∈ l, s.size ≤ 9223372036854775807) :
    Gives Try.prog 62 #[.slice A l.length c] w (.bool (namesB l)) := by
  have hl := h.len
  have hcap := h.cap
  go_enter Try.func62, Try.ntmps62
  go_wp2
  go_loopw [3] (fun i wr => ∃ k : Nat, k ≤ l.length ∧ i = .int .i64 k ∧ Hid (∀ j, j < k → nameOk l j = true) ∧ Ext w wr) (fun i _ => l.length - (intOf i).toNat)
  case atStart => exact ⟨0, by omega, rfl, (fun j hj => by omega), Ext.refl _⟩
  case round =>
    obtain ⟨k, hk, rfl, ht, he⟩ := hrel
    by_cases hlt : k < l.length
    · obtain ⟨b, off, hA, hb, hc⟩ := h.at k hlt
      have HT := h.take k (by omega)
      have HN := Lib.hid (nameOk_at hlt)
      have NO : Hid (nameOk l k = false → namesB l = false) := fun hf => by unfold namesB; rw [allN_no hlt hf, Bool.and_false]
      have YES : Hid (nameOk l k = true → ∀ j, j < k + 1 → nameOk l j = true) := upTo ht.out
      have CN := Lib.hid (fun w => sIsName_c l[k] w (hw _ (List.getElem_mem hlt)))
      have hlk : (l.take k).length = k := by simp; omega
      have CC : Hid (∀ w' s, Ext w w' → Gives Try.prog 11 #[.slice A k c, .string s] w' (.bool (hasNm (l.take k) s))) := fun w' s e => by
        have := sContains_c A (l.take k) c s w' (HT.ext e)
        rwa [hlk] at this
      subst hA
      generalize l[k] = x at *
      generalize isName x = q1 at *
      have hc0 : (0 : Int) ≤ (k : Int) := by omega
      have hc1 : (k : Int) ≤ (c : Int) := by omega
      clear HT h hlk
      cases q1
      · have HR : Hid (nameOk l k = false) := by show _ = _; rw [HN.out]; rfl
        have HE := Lib.hid (NO.out HR.out)
        clear NO YES HN HR
        go_wp2_with fail
        refine wp_region_quiet_below (by kernel_rfl) (by kernel_rfl) ?_
        repeat (go_big_quiet_step ((go_at_call 50; exact Calls.regrown_of (CN.out _))))
        refine wpQuiet_nil ?_
        rintro w1 ⟨⟨nq, osq⟩, hq⟩
        have ew1 := ext_of_q hq
        clear hq nq osq
        go_wp2
        go_ret
        exact ⟨ret_bool HE.out.symm, he.trans ew1⟩
      · have CD := Lib.hid (fun w' e => CC.out w' x e)
        generalize hasNm (l.take k) x = q2 at *
        cases q2
        · have HR : Hid (nameOk l k = true) := by show _ = _; rw [HN.out]; rfl
          have HE := Lib.hid (YES.out HR.out)
          clear NO YES HN HR CC
          go_wp2_with fail
          refine wp_region_quiet_below (by kernel_rfl) (by kernel_rfl) ?_
          repeat (go_big_quiet_step ((first | (go_at_call 50; exact Calls.regrown_of (CN.out _)) | (go_at_call 11; exact Calls.regrown_of (CD.out _ (by first | assumption | exact Ext_regrown _ _ he))))))
          refine wpQuiet_nil ?_
          rintro w1 ⟨⟨nq, osq⟩, hq⟩
          have ew1 := ext_of_q hq
          clear hq nq osq
          go_wp2
          go_roundw
          case rel => exact ⟨k+1, by omega, by go_num, HE.out, he.trans ew1⟩
          case measure => simp [intOf]; omega
        · have HR : Hid (nameOk l k = false) := by show _ = _; rw [HN.out]; rfl
          have HE := Lib.hid (NO.out HR.out)
          clear NO YES HN HR CC
          go_wp2_with fail
          refine wp_region_quiet_below (by kernel_rfl) (by kernel_rfl) ?_
          repeat (go_big_quiet_step ((first | (go_at_call 50; exact Calls.regrown_of (CN.out _)) | (go_at_call 11; exact Calls.regrown_of (CD.out _ (by first | assumption | exact Ext_regrown _ _ he))))))
          refine wpQuiet_nil ?_
          rintro w1 ⟨⟨nq, osq⟩, hq⟩
          have ew1 := ext_of_q hq
          clear hq nq osq
          go_wp2
          go_ret
          exact ⟨ret_bool HE.out.symm, he.trans ew1⟩
    · have HE : Hid (namesB l = (decide ((1 : Int) ≤ (l.length : Int)) && decide ((l.length : Int) ≤ 8))) := by
        show _ = _; unfold namesB between; rw [allN_yes (fun j hj => ht.out j (by omega)), Bool.and_true]
      go_wp2_with (go_at_call 34; refine (l1In_c _ _ _ _).mono ?_; rintro _ w1 ⟨rfl, he1⟩)
      go_ret
      exact ⟨ret_bool HE.out.symm, he.trans he1⟩
set_option maxRecDepth 100000 in
set_option maxHeartbeats 4000000 in
theorem iSeq_c (r : DRule) (Ab : Option Addr) (cb : Nat) (An : Option Addr) (cn : Nat) (At : Option Addr) (ct : Nat) (Ak : Option Addr) (ck : Nat) (w : World) (h : RdS w r Ab cb An cn At ct Ak ck) (hw : WfR r) :
    Gives Try.prog 67 #[vrule r (.slice Ab r.bytes.length cb) (.slice An r.names.length cn) (.slice At r.tags.length ct) (.slice Ak r.kids.length ck)] w (.bool (seqOk r)) := by
  have eb := Ext_alloc (.cells #[.string r.nm, .int .i64 r.kind, .int .i64 r.size, .bool r.little, .slice Ab r.bytes.length cb, .slice An r.names.length cn, .slice At r.tags.length ct, .slice Ak r.kids.length ck] 35) (Ext.refl w)
  have B := fun w' (e : Ext (w.alloc (.cells #[.string r.nm, .int .i64 r.kind, .int .i64 r.size, .bool r.little, .slice Ab r.bytes.length cb, .slice An r.names.length cn, .slice At r.tags.length ct, .slice Ak r.kids.length ck] 35)) w') => boxed e
  have CP := Lib.hid (fun w => iPlain0010_c r Ab cb An cn At ct Ak ck (-1) w h.lens)
  obtain ⟨hl1, hl2, hl3, hl4⟩ := h.lens
  have hN := h.n
  have hcap := hN.cap
  have hwn := Lib.hid hw.names
  clear h hw
  unfold seqOk
  generalize plainB r false false true false (-1) = p at *
  unfold vrule at *
  cases p
  · go_enter Try.func67, Try.ntmps67
    go_wp2_with fail
    refine (CP.out _).mono ?_; rintro _ w1 ⟨rfl, he1⟩
    go_wp2
    go_ret
    exact ⟨ret_bool (by simp), eb.trans he1⟩
  by_cases hlen : r.kids.length = r.names.length
  · have CI := Lib.hid (fun w => iInRange_c (r.kids.length : Int) 1 8 w)
    have HB : Hid (between r.kids.length 1 8 = (decide ((1 : Int) ≤ (r.kids.length : Int)) && decide ((r.kids.length : Int) ≤ 8))) := rfl
    have g1 : ((r.kids.length : Int) != (r.names.length : Int)) = false := by simp [hlen]
    have g2 : (r.kids.length == r.names.length) = true := by simp [hlen]
    rw [← HB.out] at CI
    rw [g2]
    clear hlen g2 HB
    generalize between r.kids.length 1 8 = p2 at *
    cases p2
    · go_enter Try.func67, Try.ntmps67
      go_wp2_with fail
      refine (CP.out _).mono ?_; rintro _ w1 ⟨rfl, he1⟩
      go_wp2_with fail
      refine (CI.out _).mono ?_; rintro _ w2 ⟨rfl, he2⟩
      go_wp2
      go_ret
      exact ⟨ret_bool (by simp), eb.trans (he1.trans he2)⟩
    · go_enter Try.func67, Try.ntmps67
      go_wp2_with fail
      refine (CP.out _).mono ?_; rintro _ w1 ⟨rfl, he1⟩
      go_wp2_with fail
      refine (CI.out _).mono ?_; rintro _ w2 ⟨rfl, he2⟩
      have e2 := he1.trans he2
      clear he1 he2 g1 CP CI
      go_wp2
      go_loopw [27] (fun i wr => ∃ k : Nat, k ≤ r.names.length ∧ i = .int .i64 k ∧ Hid (∀ j, j < k → nameOk r.names j = true) ∧ Ext (w.alloc (.cells #[.string r.nm, .int .i64 r.kind, .int .i64 r.size, .bool r.little, .slice Ab r.bytes.length cb, .slice An r.names.length cn, .slice At r.tags.length ct, .slice Ak r.kids.length ck] 35)) wr) (fun i _ => r.names.length - (intOf i).toNat)
      case atStart => exact ⟨0, by omega, rfl, (fun j hj => by omega), e2⟩
      case round =>
        clear e2
        obtain ⟨k, hk, rfl, ht, he⟩ := hrel
        by_cases hlt : k < r.names.length
        · have HT := hN.take k (by omega)
          have HNm := Lib.hid (nameOk_at hlt)
          have NO : Hid (nameOk r.names k = false → allN r.names.length (nameOk r.names) = false) := fun hf => allN_no hlt hf
          have YES : Hid (nameOk r.names k = true → ∀ j, j < k + 1 → nameOk r.names j = true) := upTo ht.out
          have CN := Lib.hid (fun w => iIsName_c r.names[k] w (hwn.out _ (List.getElem_mem hlt)))
          have hlk : (r.names.take k).length = k := by simp; omega
          have CC : Hid (∀ w' s, Ext w w' → Gives Try.prog 23 #[.slice An k cn, .string s] w' (.bool (hasNm (r.names.take k) s))) := fun w' s e => by
            have := iContains_c An (r.names.take k) cn s w' (HT.ext e)
            rwa [hlk] at this
          obtain ⟨b, off, rfl, hb, hc⟩ := hN.at k hlt
          have hcw := fun w' (e : Ext _ w') => hc w' (eb.trans e)
          generalize r.names[k] = x at *
          generalize isName x = q1 at *
          have hc0 : (0 : Int) ≤ (k : Int) := by omega
          have hc1 : (k : Int) ≤ (cn : Int) := by omega
          clear HT hlk hc hN
          cases q1
          · have HR : Hid (nameOk r.names k = false) := by show _ = _; rw [HNm.out]; rfl
            have HE := Lib.hid (NO.out HR.out)
            clear NO YES HNm HR
            go_wp2_with fail
            refine (CN.out _).mono ?_; rintro _ w3 ⟨rfl, he3⟩
            go_wp2
            go_ret
            exact ⟨ret_bool (by rw [HE.out]; simp), eb.trans (he.trans he3)⟩
          · have CD := Lib.hid (fun w' e => CC.out w' x e)
            generalize hasNm (r.names.take k) x = q2 at *
            cases q2
            · have HR : Hid (nameOk r.names k = true) := by show _ = _; rw [HNm.out]; rfl
              have HE := Lib.hid (YES.out HR.out)
              clear NO YES HNm HR CC
              go_wp2_with fail
              refine (CN.out _).mono ?_; rintro _ w3 ⟨rfl, he3⟩
              have e3 := he.trans he3
              go_wp2_with fail
              refine (CD.out _ (eb.trans e3)).mono ?_; rintro _ w4 ⟨rfl, he4⟩
              go_wp2
              go_roundw
              case rel => exact ⟨k+1, by omega, by go_num, HE.out, e3.trans he4⟩
              case measure => simp [intOf]; omega
            · have HR : Hid (nameOk r.names k = false) := by show _ = _; rw [HNm.out]; rfl
              have HE := Lib.hid (NO.out HR.out)
              clear NO YES HNm HR CC
              go_wp2_with fail
              refine (CN.out _).mono ?_; rintro _ w3 ⟨rfl, he3⟩
              have e3 := he.trans he3
              go_wp2_with fail
              refine (CD.out _ (eb.trans e3)).mono ?_; rintro _ w4 ⟨rfl, he4⟩
              go_wp2
              go_ret
              exact ⟨ret_bool (by rw [HE.out]; simp), eb.trans (e3.trans he4)⟩
        · have HE : Hid (allN r.names.length (nameOk r.names) = true) := allN_yes (fun j hj => ht.out j (by omega))
          go_wp2
          go_ret
          exact ⟨ret_bool (by rw [HE.out]; simp), eb.trans he⟩
  · have g1 : ((r.kids.length : Int) != (r.names.length : Int)) = true := by simp; omega
    have g2 : (r.kids.length == r.names.length) = false := by simpa using hlen
    rw [g2]
    clear hlen g2
    go_enter Try.func67, Try.ntmps67
    go_wp2_with fail
    refine (CP.out _).mono ?_; rintro _ w1 ⟨rfl, he1⟩
    go_wp2
    go_ret
    exact ⟨ret_bool (by simp), eb.trans he1⟩
/-- the tags of a choice, of the reference -/
def tagsB (ds : List DRule) (r : DRule) : Bool := r.kids.length == r.tags.length + 1 && between r.tags.length 1 8 && allN r.tags.length (tagOk (limD ds (r.kids.getD 0 0)) r.tags)
theorem tagOk_zero {lim : Int} {l : List Int} {k : Nat} (h : k < l.length) (hz : k = 0) : tagOk lim l k = between l[k] 0 lim := by rw [tagOk_at h]; simp [hz]
theorem tagOk_succ {lim : Int} {l : List Int} {m : Nat} (h : m + 1 < l.length) : tagOk lim l (m + 1) = (between l[m + 1] 0 lim && !decide (l[m + 1] ≤ l[m])) := by
  rw [tagOk_at h]
  have : l.getD (m + 1 - 1) 0 = l[m] := by simp [List.getD_eq_getElem?_getD, List.getElem?_eq_getElem (show m < l.length by omega)]
  rw [this]
  by_cases h2 : l[m] < l[m + 1]
  · rw [decide_eq_true h2, decide_eq_false (show ¬ l[m + 1] ≤ l[m] by omega)]; simp
  · rw [decide_eq_false h2, decide_eq_true (show l[m + 1] ≤ l[m] by omega)]; simp
theorem wrap_back (m : Nat) (h : m ≤ 9223372036854775807) : IntKind.i64.wrap ((m : Int) + 1 - 1) = (m : Int) := by
  rw [show (m : Int) + 1 - 1 = (m : Int) by omega]; exact IntWalk.i64_in _ (by omega)
set_option maxRecDepth 100000 in
set_option maxHeartbeats 4000000 in
theorem sTags_c (A : Option Addr) (ds : List DRule) (c : Nat) (r : DRule) (Ab : Option Addr) (cb : Nat) (An : Option Addr) (cn : Nat) (At : Option Addr) (ct : Nat) (Ak : Option Addr) (ck : Nat) (w : World) (hd : RdD w A ds c) (h : RdS w r Ab cb An cn At ct Ak ck) (hs : ShortR r) :
    Gives Try.prog 63 #[vdesc (.slice A ds.length c), vrule r (.slice Ab r.bytes.length cb) (.slice An r.names.length cn) (.slice At r.tags.length ct) (.slice Ak r.kids.length ck)] w (.bool (tagsB ds r)) := by
  have eb := Ext_alloc (.cells #[.string r.nm, .int .i64 r.kind, .int .i64 r.size, .bool r.little, .slice Ab r.bytes.length cb, .slice An r.names.length cn, .slice At r.tags.length ct, .slice Ak r.kids.length ck] 35) (Ext_alloc (.cells #[.slice A ds.length c] 26) (Ext.refl w))
  have BX := fun w' (e : Ext ((w.alloc (.cells #[.slice A ds.length c] 26)).alloc (.cells #[.string r.nm, .int .i64 r.kind, .int .i64 r.size, .bool r.little, .slice Ab r.bytes.length cb, .slice An r.names.length cn, .slice At r.tags.length ct, .slice Ak r.kids.length ck] 35)) w') => boxed2 e
  have B0 := fun w' e => (BX w' e).1
  have B1 := fun w' e => (BX w' e).2.1
  clear BX
  obtain ⟨hl1, hl2, hl3, hl4⟩ := hs
  have hT := h.t; have hK := h.k
  clear h
  unfold vrule vdesc at *
  unfold tagsB
  by_cases hlen : r.kids.length = r.tags.length + 1
  · have g1 : ((r.kids.length : Int) != (r.tags.length : Int) + 1) = false := by simp; omega
    have g2 : (r.kids.length == r.tags.length + 1) = true := by simpa using hlen
    rw [g2]
    have CI := Lib.hid (fun w => l1In_c (r.tags.length : Int) 1 8 w)
    have HB : Hid (between r.tags.length 1 8 = (decide ((1 : Int) ≤ (r.tags.length : Int)) && decide ((r.tags.length : Int) ≤ 8))) := rfl
    rw [← HB.out] at CI
    have HLEN := Lib.hid hlen
    clear g2 HB hlen
    generalize between r.tags.length 1 8 = p2 at *
    cases p2
    · go_enter Try.func63, Try.ntmps63
      go_wp2_with fail
      refine (CI.out _).mono ?_; rintro _ w2 ⟨rfl, he2⟩
      go_wp2
      go_ret
      exact ⟨ret_bool (by simp), eb.trans he2⟩
    · have hk0 : 0 < r.kids.length := by have := HLEN.out; omega
      obtain ⟨bk, ok, rfl, hbk, hck⟩ := hK.at 0 hk0
      have HG : Hid (r.kids.getD 0 0 = r.kids[0]) := by show _ = _; simp [List.getD_eq_getElem?_getD, List.getElem?_eq_getElem hk0]
      rw [HG.out]
      rw [Nat.add_zero] at hck
      generalize r.kids[0] = kid at *
      have CL := Lib.hid (fun w h => sLimit_c A ds c kid w h)
      unfold vdesc at CL
      generalize limD ds kid = lim at *
      have hck' := fun w' (e : Ext _ w') => hck w' (eb.trans e)
      clear hck hK HG
      go_enter Try.func63, Try.ntmps63
      go_wp2_with fail
      refine (CI.out _).mono ?_; rintro _ w2 ⟨rfl, he2⟩
      clear CI g1
      go_wp2
      go_loopw [5] (fun i wr => ∃ k : Nat, k ≤ r.tags.length ∧ i = .int .i64 k ∧ Hid (∀ j, j < k → tagOk lim r.tags j = true) ∧ Ext _ wr) (fun i _ => r.tags.length - (intOf i).toNat)
      case atStart => exact ⟨0, by omega, rfl, (fun j hj => by omega), he2⟩
      case round =>
        clear he2
        obtain ⟨k, hk, rfl, ht, he⟩ := hrel
        by_cases hlt : k < r.tags.length
        · obtain ⟨b, off, rfl, hb, hc⟩ := hT.at k hlt
          have hc' := fun w' (e : Ext _ w') => hc w' (eb.trans e)
          have NO : Hid (tagOk lim r.tags k = false → allN r.tags.length (tagOk lim r.tags) = false) := fun hf => allN_no hlt hf
          have YES : Hid (tagOk lim r.tags k = true → ∀ j, j < k + 1 → tagOk lim r.tags j = true) := upTo ht.out
          have CB := Lib.hid (fun w => l1In_c r.tags[k] 0 lim w)
          have HB : Hid (between r.tags[k] 0 lim = (decide ((0 : Int) ≤ r.tags[k]) && decide (r.tags[k] ≤ lim))) := rfl
          rw [← HB.out] at CB
          clear HB
          rcases Nat.eq_zero_or_pos k with hz | hpos
          · have HN := Lib.hid (tagOk_zero (lim := lim) hlt hz)
            have d1 : decide ((0 : Int) < (k : Int)) = false := by simp; omega
            have d2 : decide (0 < k) = false := by simp; omega
            clear hz
            generalize r.tags[k] = x at *
            generalize between x 0 lim = q1 at *
            clear hc hT ht
            cases q1
            · have HE := Lib.hid (NO.out HN.out); clear NO YES HN
              go_wp2_with fail
              refine wp_region_quiet_below (by kernel_rfl) (by kernel_rfl) ?_
              repeat (go_big_quiet_step ((first | (go_at_call 61; exact Calls.regrown_of (CL.out _ (hd.ext (eb.trans (by first | assumption | exact Ext_regrown _ _ he))))) | (go_at_call 34; exact Calls.regrown_of (CB.out _)))))
              refine wpQuiet_nil ?_
              rintro w1 ⟨⟨nq, osq⟩, hq⟩
              have ew1 := ext_of_q hq
              clear hq nq osq
              go_wp2
              go_ret
              exact ⟨ret_bool (by rw [HE.out]; simp), eb.trans (he.trans ew1)⟩
            · have HE := Lib.hid (YES.out HN.out); clear NO YES HN
              go_wp2_with fail
              refine wp_region_quiet_below (by kernel_rfl) (by kernel_rfl) ?_
              repeat (go_big_quiet_step ((first | (go_at_call 61; exact Calls.regrown_of (CL.out _ (hd.ext (eb.trans (by first | assumption | exact Ext_regrown _ _ he))))) | (go_at_call 34; exact Calls.regrown_of (CB.out _)))))
              refine wpQuiet_nil ?_
              rintro w1 ⟨⟨nq, osq⟩, hq⟩
              have ew1 := ext_of_q hq
              clear hq nq osq
              go_wp2
              go_roundw
              case rel => exact ⟨k+1, by omega, by go_num, HE.out, he.trans ew1⟩
              case measure => simp [intOf]; omega
          · obtain ⟨m, rfl⟩ : ∃ m, k = m + 1 := ⟨k - 1, by omega⟩
            have HN := Lib.hid (tagOk_succ (lim := lim) hlt)
            obtain ⟨b', off', hh, _, hcm⟩ := hT.at m (by omega)
            obtain ⟨rfl, rfl⟩ : b = b' ∧ off = off' := by injection hh with hh; injection hh with h1 h2; exact ⟨h1, h2⟩
            have hcm' := fun w' (e : Ext _ w') => hcm w' (eb.trans e)
            have hwm := wrap_back m (by omega)
            generalize r.tags[m + 1] = x at *
            generalize r.tags[m] = y at *
            generalize between x 0 lim = q1 at *
            clear hc hT ht hcm hh
            cases q1
            · have HE := Lib.hid (NO.out (HN.out.trans (by simp))); clear NO YES HN
              go_wp2_with fail
              refine wp_region_quiet_below (by kernel_rfl) (by kernel_rfl) ?_
              repeat (go_big_quiet_step ((first | (go_at_call 61; exact Calls.regrown_of (CL.out _ (hd.ext (eb.trans (by first | assumption | exact Ext_regrown _ _ he))))) | (go_at_call 34; exact Calls.regrown_of (CB.out _)))))
              refine wpQuiet_nil ?_
              rintro w1 ⟨⟨nq, osq⟩, hq⟩
              have ew1 := ext_of_q hq
              clear hq nq osq
              go_wp2
              go_ret
              exact ⟨ret_bool (by rw [HE.out]; simp), eb.trans (he.trans ew1)⟩
            · cases hq : decide (x ≤ y)
              · have HE := Lib.hid (YES.out (HN.out.trans (by rw [hq]; simp))); clear NO YES HN
                go_wp2_with fail
                refine wp_region_quiet_below (by kernel_rfl) (by kernel_rfl) ?_
                repeat (go_big_quiet_step ((first | (go_at_call 61; exact Calls.regrown_of (CL.out _ (hd.ext (eb.trans (by first | assumption | exact Ext_regrown _ _ he))))) | (go_at_call 34; exact Calls.regrown_of (CB.out _)))))
                refine wpQuiet_nil ?_
                rintro w1 ⟨⟨nq, osq⟩, hq⟩
                have ew1 := ext_of_q hq
                clear hq nq osq
                go_wp2
                go_roundw
                case rel => exact ⟨m+2, by omega, by go_num, HE.out, he.trans ew1⟩
                case measure => simp [intOf]; omega
              · have HE := Lib.hid (NO.out (HN.out.trans (by rw [hq]; simp))); clear NO YES HN
                go_wp2_with fail
                refine wp_region_quiet_below (by kernel_rfl) (by kernel_rfl) ?_
                repeat (go_big_quiet_step ((first | (go_at_call 61; exact Calls.regrown_of (CL.out _ (hd.ext (eb.trans (by first | assumption | exact Ext_regrown _ _ he))))) | (go_at_call 34; exact Calls.regrown_of (CB.out _)))))
                refine wpQuiet_nil ?_
                rintro w1 ⟨⟨nq, osq⟩, hq⟩
                have ew1 := ext_of_q hq
                clear hq nq osq
                go_wp2
                go_ret
                exact ⟨ret_bool (by rw [HE.out]; simp), eb.trans (he.trans ew1)⟩
        · have HE : Hid (allN r.tags.length (tagOk lim r.tags) = true) := allN_yes (fun j hj => ht.out j (by omega))
          go_wp2
          go_ret
          exact ⟨ret_bool (by rw [HE.out]; simp), eb.trans he⟩
  · have g1 : ((r.kids.length : Int) != (r.tags.length : Int) + 1) = true := by simp; omega
    have g2 : (r.kids.length == r.tags.length + 1) = false := by simpa using hlen
    rw [g2]
    clear hlen g2
    go_enter Try.func63, Try.ntmps63
    go_wp2
    go_ret
    exact ⟨ret_bool (by simp), eb⟩
theorem plainB_kids {r : DRule} {a b c d : Bool} {k : Nat} (h : plainB r a b c d (k : Int) = true) : r.kids.length = k := by
  unfold plainB at h
  simp only [Bool.and_eq_true, Bool.or_eq_true, decide_eq_true_eq] at h
  omega
theorem lim_pos {lim : Int} (hl : lim = -1 ∨ lim = 255 ∨ lim = 65535 ∨ lim = 16777215 ∨ lim = 4294967295) {l : List Int} (h : 0 < l.length) (ht : ∀ j, j < l.length → tagOk lim l j = true) : decide (0 < lim) = true := by
  have h0 := ht 0 h
  rw [tagOk_zero h rfl] at h0
  unfold between at h0
  simp only [Bool.and_eq_true, decide_eq_true_eq] at h0
  simp; omega
set_option maxRecDepth 100000 in
set_option maxHeartbeats 4000000 in
theorem iChoice_c (A : Option Addr) (ds : List DRule) (c : Nat) (r : DRule) (Ab : Option Addr) (cb : Nat) (An : Option Addr) (cn : Nat) (At : Option Addr) (ct : Nat) (Ak : Option Addr) (ck : Nat) (w : World) (hd : RdD w A ds c) (h : RdS w r Ab cb An cn At ct Ak ck) (hs : ShortR r) :
    Gives Try.prog 68 #[vdesc (.slice A ds.length c), vrule r (.slice Ab r.bytes.length cb) (.slice An r.names.length cn) (.slice At r.tags.length ct) (.slice Ak r.kids.length ck)] w (.bool (choOk ds r)) := by
  have eb := Ext_alloc (.cells #[.string r.nm, .int .i64 r.kind, .int .i64 r.size, .bool r.little, .slice Ab r.bytes.length cb, .slice An r.names.length cn, .slice At r.tags.length ct, .slice Ak r.kids.length ck] 35) (Ext_alloc (.cells #[.slice A ds.length c] 26) (Ext.refl w))
  have BX := fun w' (e : Ext ((w.alloc (.cells #[.slice A ds.length c] 26)).alloc (.cells #[.string r.nm, .int .i64 r.kind, .int .i64 r.size, .bool r.little, .slice Ab r.bytes.length cb, .slice An r.names.length cn, .slice At r.tags.length ct, .slice Ak r.kids.length ck] 35)) w') => boxed2 e
  have B0 := fun w' e => (BX w' e).1
  have B1 := fun w' e => (BX w' e).2.1
  clear BX
  have CP := Lib.hid (fun w => iPlain0001_c r Ab cb An cn At ct Ak ck ((r.tags.length : Int) + 1) w h.lens)
  obtain ⟨hl1, hl2, hl3, hl4⟩ := hs
  have hT := h.t; have hK := h.k
  clear h
  have HK : Hid (plainB r false false false true ((r.tags.length : Int) + 1) = true → r.kids.length = r.tags.length + 1) := fun hp => plainB_kids (k := r.tags.length + 1) (by rw [Int.natCast_add]; exact hp)
  unfold choOk
  generalize plainB r false false false true ((r.tags.length : Int) + 1) = p at *
  unfold vrule vdesc at *
  cases p
  · go_enter Try.func68, Try.ntmps68
    go_wp2_with fail
    refine (CP.out _).mono ?_; rintro _ w1 ⟨rfl, he1⟩
    go_wp2
    go_ret
    exact ⟨ret_bool (by simp), eb.trans he1⟩
  have hlen := HK.out rfl
  have CI := Lib.hid (fun w => iInRange_c (r.tags.length : Int) 1 8 w)
  have HB : Hid (between r.tags.length 1 8 = (decide ((1 : Int) ≤ (r.tags.length : Int)) && decide ((r.tags.length : Int) ≤ 8))) := rfl
  rw [← HB.out] at CI
  have HP : Hid (between r.tags.length 1 8 = true → 0 < r.tags.length) := by intro hq; unfold between at hq; simp only [Bool.and_eq_true, decide_eq_true_eq] at hq; omega
  have HLEN := Lib.hid hlen
  clear HB hlen HK
  generalize between r.tags.length 1 8 = p2 at *
  cases p2
  · go_enter Try.func68, Try.ntmps68
    go_wp2_with fail
    refine (CP.out _).mono ?_; rintro _ w1 ⟨rfl, he1⟩
    go_wp2_with fail
    refine (CI.out _).mono ?_; rintro _ w2 ⟨rfl, he2⟩
    go_wp2
    go_ret
    exact ⟨ret_bool (by simp), eb.trans (he1.trans he2)⟩
  · have hpos := HP.out rfl
    have hk0 : 0 < r.kids.length := by have := HLEN.out; omega
    obtain ⟨bk, ok, rfl, hbk, hck⟩ := hK.at 0 hk0
    have HG : Hid (r.kids.getD 0 0 = r.kids[0]) := by show _ = _; simp [List.getD_eq_getElem?_getD, List.getElem?_eq_getElem hk0]
    rw [HG.out]
    rw [Nat.add_zero] at hck
    generalize r.kids[0] = kid at *
    have CL := Lib.hid (fun w h => iLimit_c A ds c kid w h)
    have HLC := Lib.hid (limD_cases ds kid)
    unfold vdesc at CL
    generalize limD ds kid = lim at *
    have hck' := fun w' (e : Ext _ w') => hck w' (eb.trans e)
    clear hck hK HG
    go_enter Try.func68, Try.ntmps68
    go_wp2_with fail
    refine (CP.out _).mono ?_; rintro _ w1 ⟨rfl, he1⟩
    go_wp2_with fail
    refine (CI.out _).mono ?_; rintro _ w2 ⟨rfl, he2⟩
    have e2 := he1.trans he2
    clear CI CP he1 he2
    go_wp2_with fail
    refine wp_region_quiet_below (by kernel_rfl) (by kernel_rfl) ?_
    repeat (go_big_quiet_step ((go_at_call 66; exact Calls.regrown_of (CL.out _ (hd.ext (eb.trans (by first | assumption | exact Ext_regrown _ _ e2)))))))
    refine wpQuiet_nil ?_
    rintro w3 ⟨⟨nq, osq⟩, hq⟩
    have ew3 := ext_of_q hq
    clear hq nq osq
    have e3 := e2.trans ew3
    clear e2 ew3 CL
    go_wp2
    go_loopw [31] (fun i wr => ∃ k : Nat, k ≤ r.tags.length ∧ i = .int .i64 k ∧ Hid (∀ j, j < k → tagOk lim r.tags j = true) ∧ Ext _ wr) (fun i _ => r.tags.length - (intOf i).toNat)
    case atStart => exact ⟨0, by omega, rfl, (fun j hj => by omega), e3⟩
    case round =>
      clear e3
      obtain ⟨k, hk, rfl, ht, he⟩ := hrel
      by_cases hlt : k < r.tags.length
      · obtain ⟨b, off, rfl, hb, hc⟩ := hT.at k hlt
        have hc' := fun w' (e : Ext _ w') => hc w' (eb.trans e)
        have NO : Hid (tagOk lim r.tags k = false → allN r.tags.length (tagOk lim r.tags) = false) := fun hf => allN_no hlt hf
        have YES : Hid (tagOk lim r.tags k = true → ∀ j, j < k + 1 → tagOk lim r.tags j = true) := upTo ht.out
        have CB := Lib.hid (fun w => iInRange_c r.tags[k] 0 lim w)
        have HB : Hid (between r.tags[k] 0 lim = (decide ((0 : Int) ≤ r.tags[k]) && decide (r.tags[k] ≤ lim))) := rfl
        rw [← HB.out] at CB
        clear HB
        rcases Nat.eq_zero_or_pos k with hz | hpos'
        · have HN := Lib.hid (tagOk_zero (lim := lim) hlt hz)
          have d1 : decide ((0 : Int) < (k : Int)) = false := by simp; omega
          have d2 : decide (0 < k) = false := by simp; omega
          clear hz
          generalize r.tags[k] = x at *
          generalize between x 0 lim = q1 at *
          clear hc hT ht
          cases q1
          · have HE := Lib.hid (NO.out HN.out); clear NO YES HN
            go_wp2_with fail
            refine (CB.out _).mono ?_; rintro _ w4 ⟨rfl, he4⟩
            go_wp2
            go_ret
            exact ⟨ret_bool (by rw [HE.out]; simp), eb.trans (he.trans he4)⟩
          · have HE := Lib.hid (YES.out HN.out); clear NO YES HN
            go_wp2_with fail
            refine (CB.out _).mono ?_; rintro _ w4 ⟨rfl, he4⟩
            go_wp2
            go_roundw
            case rel => exact ⟨k+1, by omega, by go_num, HE.out, he.trans he4⟩
            case measure => simp [intOf]; omega
        · obtain ⟨m, rfl⟩ : ∃ m, k = m + 1 := ⟨k - 1, by omega⟩
          have HN := Lib.hid (tagOk_succ (lim := lim) hlt)
          obtain ⟨b', off', hh, _, hcm⟩ := hT.at m (by omega)
          obtain ⟨rfl, rfl⟩ : b = b' ∧ off = off' := by injection hh with hh; injection hh with h1 h2; exact ⟨h1, h2⟩
          have hcm' := fun w' (e : Ext _ w') => hcm w' (eb.trans e)
          have hwm := wrap_back m (by omega)
          generalize r.tags[m + 1] = x at *
          generalize r.tags[m] = y at *
          generalize between x 0 lim = q1 at *
          clear hc hT ht hcm hh
          cases q1
          · have HE := Lib.hid (NO.out (HN.out.trans (by simp))); clear NO YES HN
            go_wp2_with fail
            refine (CB.out _).mono ?_; rintro _ w4 ⟨rfl, he4⟩
            go_wp2
            go_ret
            exact ⟨ret_bool (by rw [HE.out]; simp), eb.trans (he.trans he4)⟩
          · cases hq : decide (x ≤ y)
            · have HE := Lib.hid (YES.out (HN.out.trans (by rw [hq]; simp))); clear NO YES HN
              go_wp2_with fail
              refine (CB.out _).mono ?_; rintro _ w4 ⟨rfl, he4⟩
              have e4 := he.trans he4
              go_wp2
              go_roundw
              case rel => exact ⟨m+2, by omega, by go_num, HE.out, e4⟩
              case measure => simp [intOf]; omega
            · have HE := Lib.hid (NO.out (HN.out.trans (by rw [hq]; simp))); clear NO YES HN
              go_wp2_with fail
              refine (CB.out _).mono ?_; rintro _ w4 ⟨rfl, he4⟩
              have e4 := he.trans he4
              go_wp2
              go_ret
              exact ⟨ret_bool (by rw [HE.out]; simp), eb.trans e4⟩
      · have HE : Hid (allN r.tags.length (tagOk lim r.tags) = true) := allN_yes (fun j hj => ht.out j (by omega))
        have HL0 := Lib.hid (lim_pos HLC.out hpos (fun j hj => ht.out j (by omega)))
        have hl0 := HL0.out
        go_wp2
        go_ret
        exact ⟨ret_bool (by rw [HE.out]; simp), eb.trans he⟩
end Go.Proofs.Ytophjmphjdhjoaa

/- Kinds of rules, of the program. -/
namespace Go.Proofs.Ytophjmphjdhjoaa
open Go.RowKit Go.Sort

set_option maxRecDepth 100000 in
set_option maxHeartbeats 4000000 in
theorem iKind1_c (A : Option Addr) (ds : List DRule) (c : Nat) (r : DRule) (Ab : Option Addr) (cb : Nat) (An : Option Addr) (cn : Nat) (At : Option Addr) (ct : Nat) (Ak : Option Addr) (ck : Nat) (w : World) (hd : RdD w A ds c) (h : RdS w r Ab cb An cn At ct Ak ck) (hs : ShortR r) (hw : WfR r) (hk : r.kind = 1) :
    Gives Try.prog 59 #[vdesc (.slice A ds.length c), vrule r (.slice Ab r.bytes.length cb) (.slice An r.names.length cn) (.slice At r.tags.length ct) (.slice Ak r.kids.length ck)] w (.bool (kindOk ds r)) := by
  have eb := Ext_alloc (.cells #[.string r.nm, .int .i64 r.kind, .int .i64 r.size, .bool r.little, .slice Ab r.bytes.length cb, .slice An r.names.length cn, .slice At r.tags.length ct, .slice Ak r.kids.length ck] 35) (Ext_alloc (.cells #[.slice A ds.length c] 26) (Ext.refl w))
  have BX := fun w' (e : Ext ((w.alloc (.cells #[.slice A ds.length c] 26)).alloc (.cells #[.string r.nm, .int .i64 r.kind, .int .i64 r.size, .bool r.little, .slice Ab r.bytes.length cb, .slice An r.names.length cn, .slice At r.tags.length ct, .slice Ak r.kids.length ck] 35)) w') => boxed2 e
  have B0 := fun w' e => (BX w' e).1
  have B1 := fun w' e => (BX w' e).2.1
  clear BX
  have t1 : (r.kind == 1) = true := by rw [hk]; rfl
  have t2 : (r.kind == 2) = false := by rw [hk]; rfl
  have t3 : (r.kind == 3) = false := by rw [hk]; rfl
  have t4 : (r.kind == 4) = false := by rw [hk]; rfl
  have t5 : (r.kind == 5) = false := by rw [hk]; rfl
  have t6 : (r.kind == 6) = false := by rw [hk]; rfl
  have t7 : (r.kind == 7) = false := by rw [hk]; rfl
  have t8 : (r.kind == 8) = false := by rw [hk]; rfl
  have t9 : (r.kind == 9) = false := by rw [hk]; rfl
  have t10 : (r.kind == 10) = false := by rw [hk]; rfl
  have HV : Hid ((kindOk ds r) = (plainB r true false false false 0 && (between r.size 1 4 && (!r.little || decide (1 < r.size))))) := by show _ = _; simp [kindOk, hk, Bool.and_assoc]
  rw [HV.out]
  have CP := Lib.hid (fun w => iPlain1000_c r Ab cb An cn At ct Ak ck 0 w h.lens)
  generalize (plainB r true false false false 0) = p at *
  clear HV hk
  have CI := Lib.hid (fun w => iInRange_c r.size 1 4 w)
  have HB : Hid (between r.size 1 4 = (decide (((1) : Int) ≤ r.size) && decide (r.size ≤ 4))) := rfl
  rw [← HB.out] at CI
  clear HB
  generalize between r.size 1 4 = q at *
  unfold vrule vdesc at *
  cases p
  · go_enter Try.func59, Try.ntmps59
    go_wp2_with fail
    refine (CP.out _).mono ?_; rintro _ w1 ⟨rfl, he1⟩
    go_wp2
    go_ret
    exact ⟨ret_bool (by simp), eb.trans he1⟩
  cases q
  · go_enter Try.func59, Try.ntmps59
    go_wp2_with fail
    refine (CP.out _).mono ?_; rintro _ w1 ⟨rfl, he1⟩
    go_wp2_with fail
    refine (CI.out _).mono ?_; rintro _ w2 ⟨rfl, he2⟩
    go_wp2
    go_ret
    exact ⟨ret_bool (by simp), eb.trans (he1.trans he2)⟩
  generalize r.little = li at *
  cases li
  all_goals
    cases hz : decide (1 < r.size)
    all_goals
      go_enter Try.func59, Try.ntmps59
      go_wp2_with fail
      refine (CP.out _).mono ?_; rintro _ w1 ⟨rfl, he1⟩
      go_wp2_with fail
      refine (CI.out _).mono ?_; rintro _ w2 ⟨rfl, he2⟩
      have e2 := he1.trans he2
      go_wp2
      go_ret
      exact ⟨ret_bool (by simp), eb.trans e2⟩
set_option maxRecDepth 100000 in
set_option maxHeartbeats 4000000 in
theorem iKind2_c (A : Option Addr) (ds : List DRule) (c : Nat) (r : DRule) (Ab : Option Addr) (cb : Nat) (An : Option Addr) (cn : Nat) (At : Option Addr) (ct : Nat) (Ak : Option Addr) (ck : Nat) (w : World) (hd : RdD w A ds c) (h : RdS w r Ab cb An cn At ct Ak ck) (hs : ShortR r) (hw : WfR r) (hk : r.kind = 2) :
    Gives Try.prog 59 #[vdesc (.slice A ds.length c), vrule r (.slice Ab r.bytes.length cb) (.slice An r.names.length cn) (.slice At r.tags.length ct) (.slice Ak r.kids.length ck)] w (.bool (kindOk ds r)) := by
  have eb := Ext_alloc (.cells #[.string r.nm, .int .i64 r.kind, .int .i64 r.size, .bool r.little, .slice Ab r.bytes.length cb, .slice An r.names.length cn, .slice At r.tags.length ct, .slice Ak r.kids.length ck] 35) (Ext_alloc (.cells #[.slice A ds.length c] 26) (Ext.refl w))
  have BX := fun w' (e : Ext ((w.alloc (.cells #[.slice A ds.length c] 26)).alloc (.cells #[.string r.nm, .int .i64 r.kind, .int .i64 r.size, .bool r.little, .slice Ab r.bytes.length cb, .slice An r.names.length cn, .slice At r.tags.length ct, .slice Ak r.kids.length ck] 35)) w') => boxed2 e
  have B0 := fun w' e => (BX w' e).1
  have B1 := fun w' e => (BX w' e).2.1
  clear BX
  have t1 : (r.kind == 1) = false := by rw [hk]; rfl
  have t2 : (r.kind == 2) = true := by rw [hk]; rfl
  have t3 : (r.kind == 3) = false := by rw [hk]; rfl
  have t4 : (r.kind == 4) = false := by rw [hk]; rfl
  have t5 : (r.kind == 5) = false := by rw [hk]; rfl
  have t6 : (r.kind == 6) = false := by rw [hk]; rfl
  have t7 : (r.kind == 7) = false := by rw [hk]; rfl
  have t8 : (r.kind == 8) = false := by rw [hk]; rfl
  have t9 : (r.kind == 9) = false := by rw [hk]; rfl
  have t10 : (r.kind == 10) = false := by rw [hk]; rfl
  have HV : Hid ((kindOk ds r) = (plainB r false true false false 0 && (between r.bytes.length 1 16))) := by show _ = _; simp [kindOk, hk, Bool.and_assoc]
  rw [HV.out]
  have CP := Lib.hid (fun w => iPlain0100_c r Ab cb An cn At ct Ak ck 0 w h.lens)
  generalize (plainB r false true false false 0) = p at *
  clear HV hk
  have CI := Lib.hid (fun w => iInRange_c (r.bytes.length : Int) 1 16 w)
  have HB : Hid (between r.bytes.length 1 16 = (decide (((1) : Int) ≤ (r.bytes.length : Int)) && decide ((r.bytes.length : Int) ≤ 16))) := rfl
  rw [← HB.out] at CI
  clear HB
  generalize between r.bytes.length 1 16 = q at *
  have hlb := h.lens.1
  unfold vrule vdesc at *
  cases p
  · go_enter Try.func59, Try.ntmps59
    go_wp2_with fail
    refine (CP.out _).mono ?_; rintro _ w1 ⟨rfl, he1⟩
    go_wp2
    go_ret
    exact ⟨ret_bool (by simp), eb.trans he1⟩
  go_enter Try.func59, Try.ntmps59
  go_wp2_with fail
  refine (CP.out _).mono ?_; rintro _ w1 ⟨rfl, he1⟩
  go_wp2_with fail
  refine (CI.out _).mono ?_; rintro _ w2 ⟨rfl, he2⟩
  go_wp2
  go_ret
  exact ⟨ret_bool (by simp), eb.trans (he1.trans he2)⟩
set_option maxRecDepth 100000 in
set_option maxHeartbeats 4000000 in
theorem iKind3_c (A : Option Addr) (ds : List DRule) (c : Nat) (r : DRule) (Ab : Option Addr) (cb : Nat) (An : Option Addr) (cn : Nat) (At : Option Addr) (ct : Nat) (Ak : Option Addr) (ck : Nat) (w : World) (hd : RdD w A ds c) (h : RdS w r Ab cb An cn At ct Ak ck) (hs : ShortR r) (hw : WfR r) (hk : r.kind = 3) :
    Gives Try.prog 59 #[vdesc (.slice A ds.length c), vrule r (.slice Ab r.bytes.length cb) (.slice An r.names.length cn) (.slice At r.tags.length ct) (.slice Ak r.kids.length ck)] w (.bool (kindOk ds r)) := by
  have eb := Ext_alloc (.cells #[.string r.nm, .int .i64 r.kind, .int .i64 r.size, .bool r.little, .slice Ab r.bytes.length cb, .slice An r.names.length cn, .slice At r.tags.length ct, .slice Ak r.kids.length ck] 35) (Ext_alloc (.cells #[.slice A ds.length c] 26) (Ext.refl w))
  have BX := fun w' (e : Ext ((w.alloc (.cells #[.slice A ds.length c] 26)).alloc (.cells #[.string r.nm, .int .i64 r.kind, .int .i64 r.size, .bool r.little, .slice Ab r.bytes.length cb, .slice An r.names.length cn, .slice At r.tags.length ct, .slice Ak r.kids.length ck] 35)) w') => boxed2 e
  have B0 := fun w' e => (BX w' e).1
  have B1 := fun w' e => (BX w' e).2.1
  clear BX
  have t1 : (r.kind == 1) = false := by rw [hk]; rfl
  have t2 : (r.kind == 2) = false := by rw [hk]; rfl
  have t3 : (r.kind == 3) = true := by rw [hk]; rfl
  have t4 : (r.kind == 4) = false := by rw [hk]; rfl
  have t5 : (r.kind == 5) = false := by rw [hk]; rfl
  have t6 : (r.kind == 6) = false := by rw [hk]; rfl
  have t7 : (r.kind == 7) = false := by rw [hk]; rfl
  have t8 : (r.kind == 8) = false := by rw [hk]; rfl
  have t9 : (r.kind == 9) = false := by rw [hk]; rfl
  have t10 : (r.kind == 10) = false := by rw [hk]; rfl
  have HV : Hid ((kindOk ds r) = (plainB r true false false false 0 && (between r.size 1 64))) := by show _ = _; simp [kindOk, hk, Bool.and_assoc]
  rw [HV.out]
  have CP := Lib.hid (fun w => iPlain1000_c r Ab cb An cn At ct Ak ck 0 w h.lens)
  generalize (plainB r true false false false 0) = p at *
  clear HV hk
  have CI := Lib.hid (fun w => iInRange_c r.size 1 64 w)
  have HB : Hid (between r.size 1 64 = (decide (((1) : Int) ≤ r.size) && decide (r.size ≤ 64))) := rfl
  rw [← HB.out] at CI
  clear HB
  generalize between r.size 1 64 = q at *
  have hlb := h.lens.1
  unfold vrule vdesc at *
  cases p
  · go_enter Try.func59, Try.ntmps59
    go_wp2_with fail
    refine (CP.out _).mono ?_; rintro _ w1 ⟨rfl, he1⟩
    go_wp2
    go_ret
    exact ⟨ret_bool (by simp), eb.trans he1⟩
  go_enter Try.func59, Try.ntmps59
  go_wp2_with fail
  refine (CP.out _).mono ?_; rintro _ w1 ⟨rfl, he1⟩
  go_wp2_with fail
  refine (CI.out _).mono ?_; rintro _ w2 ⟨rfl, he2⟩
  go_wp2
  go_ret
  exact ⟨ret_bool (by simp), eb.trans (he1.trans he2)⟩
set_option maxRecDepth 100000 in
set_option maxHeartbeats 4000000 in
theorem iKind4_c (A : Option Addr) (ds : List DRule) (c : Nat) (r : DRule) (Ab : Option Addr) (cb : Nat) (An : Option Addr) (cn : Nat) (At : Option Addr) (ct : Nat) (Ak : Option Addr) (ck : Nat) (w : World) (hd : RdD w A ds c) (h : RdS w r Ab cb An cn At ct Ak ck) (hs : ShortR r) (hw : WfR r) (hk : r.kind = 4) :
    Gives Try.prog 59 #[vdesc (.slice A ds.length c), vrule r (.slice Ab r.bytes.length cb) (.slice An r.names.length cn) (.slice At r.tags.length ct) (.slice Ak r.kids.length ck)] w (.bool (kindOk ds r)) := by
  have eb := Ext_alloc (.cells #[.string r.nm, .int .i64 r.kind, .int .i64 r.size, .bool r.little, .slice Ab r.bytes.length cb, .slice An r.names.length cn, .slice At r.tags.length ct, .slice Ak r.kids.length ck] 35) (Ext_alloc (.cells #[.slice A ds.length c] 26) (Ext.refl w))
  have BX := fun w' (e : Ext ((w.alloc (.cells #[.slice A ds.length c] 26)).alloc (.cells #[.string r.nm, .int .i64 r.kind, .int .i64 r.size, .bool r.little, .slice Ab r.bytes.length cb, .slice An r.names.length cn, .slice At r.tags.length ct, .slice Ak r.kids.length ck] 35)) w') => boxed2 e
  have B0 := fun w' e => (BX w' e).1
  have B1 := fun w' e => (BX w' e).2.1
  clear BX
  have t1 : (r.kind == 1) = false := by rw [hk]; rfl
  have t2 : (r.kind == 2) = false := by rw [hk]; rfl
  have t3 : (r.kind == 3) = false := by rw [hk]; rfl
  have t4 : (r.kind == 4) = true := by rw [hk]; rfl
  have t5 : (r.kind == 5) = false := by rw [hk]; rfl
  have t6 : (r.kind == 6) = false := by rw [hk]; rfl
  have t7 : (r.kind == 7) = false := by rw [hk]; rfl
  have t8 : (r.kind == 8) = false := by rw [hk]; rfl
  have t9 : (r.kind == 9) = false := by rw [hk]; rfl
  have t10 : (r.kind == 10) = false := by rw [hk]; rfl
  have HV : Hid ((kindOk ds r) = (plainB r false false false false 1 && (decide (0 < limD ds (r.kids.getD 0 0))))) := by show _ = _; simp [kindOk, hk, Bool.and_assoc]
  rw [HV.out]
  have CP := Lib.hid (fun w => iPlain0000_c r Ab cb An cn At ct Ak ck 1 w h.lens)
  have HKL : Hid (plainB r false false false false 1 = true → r.kids.length = 1) := plainB_kids (k := 1)
  have HPP : Hid ((plainB r false false false false 1) = true → plainB r false false false false 1 = true) := fun hq => hq
  have HKK := Lib.hid (fun hq => HKL.out (HPP.out hq)); clear HKL HPP
  generalize (plainB r false false false false 1) = p at *
  clear HV hk
  have h1 := h.k
  unfold vrule vdesc at *
  cases p
  · go_enter Try.func59, Try.ntmps59
    go_wp2_with fail
    refine wp_region_quiet_below (by kernel_rfl) (by kernel_rfl) ?_
    repeat (go_big_quiet_step ((go_at_call 65; exact Calls.regrown_of (CP.out _))))
    refine wpQuiet_nil ?_
    rintro w1 ⟨⟨nq, osq⟩, hq⟩
    have ew1 := ext_of_q hq
    clear hq nq osq
    go_wp2
    go_ret
    exact ⟨ret_bool (by simp), eb.trans ew1⟩
  have hk0 : 0 < r.kids.length := by have := HKK.out rfl; omega
  obtain ⟨bk, ok, rfl, hbk, hck⟩ := h1.at 0 hk0
  have HG : Hid (r.kids.getD 0 0 = r.kids[0]) := by show _ = _; simp [List.getD_eq_getElem?_getD, List.getElem?_eq_getElem hk0]
  rw [HG.out]
  rw [Nat.add_zero] at hck
  generalize r.kids[0] = kid at *
  have CL := Lib.hid (fun w h => iLimit_c A ds c kid w h)
  unfold vdesc at CL
  generalize limD ds kid = lim at *
  have hck' := fun w' (e : Ext _ w') => hck w' (eb.trans e)
  clear hck h1 h HG HKK
  have hbe := Ext_drew (Ext.refl ((w.alloc (.cells #[.slice A ds.length c] 26)).alloc (.cells #[.string r.nm, .int .i64 r.kind, .int .i64 r.size, .bool r.little, .slice Ab r.bytes.length cb, .slice An r.names.length cn, .slice At r.tags.length ct, .slice (some ⟨bk, ok, none⟩) r.kids.length ck] 35)))
  go_enter Try.func59, Try.ntmps59
  go_wp2_with fail
  refine wp_region_quiet_below (by kernel_rfl) (by kernel_rfl) ?_
  repeat (go_big_quiet_step ((first | (go_at_call 65; exact Calls.regrown_of (CP.out _)) | (go_at_call 66; exact Calls.regrown_of (CL.out _ (hd.ext (eb.trans (by first | assumption | exact Ext_self _ | exact Ext_drew (Ext_self _) | exact Ext_regrown _ _ (Ext_self _)))))))))
  refine wpQuiet_nil ?_
  rintro w1 ⟨⟨nq, osq⟩, hq⟩
  have ew1 := ext_of_q hq
  clear hq nq osq
  go_wp2
  go_ret
  exact ⟨ret_bool (by simp), eb.trans ew1⟩
set_option maxRecDepth 100000 in
set_option maxHeartbeats 4000000 in
theorem iKind5_c (A : Option Addr) (ds : List DRule) (c : Nat) (r : DRule) (Ab : Option Addr) (cb : Nat) (An : Option Addr) (cn : Nat) (At : Option Addr) (ct : Nat) (Ak : Option Addr) (ck : Nat) (w : World) (hd : RdD w A ds c) (h : RdS w r Ab cb An cn At ct Ak ck) (hs : ShortR r) (hw : WfR r) (hk : r.kind = 5) :
    Gives Try.prog 59 #[vdesc (.slice A ds.length c), vrule r (.slice Ab r.bytes.length cb) (.slice An r.names.length cn) (.slice At r.tags.length ct) (.slice Ak r.kids.length ck)] w (.bool (kindOk ds r)) := by
  have eb := Ext_alloc (.cells #[.string r.nm, .int .i64 r.kind, .int .i64 r.size, .bool r.little, .slice Ab r.bytes.length cb, .slice An r.names.length cn, .slice At r.tags.length ct, .slice Ak r.kids.length ck] 35) (Ext_alloc (.cells #[.slice A ds.length c] 26) (Ext.refl w))
  have BX := fun w' (e : Ext ((w.alloc (.cells #[.slice A ds.length c] 26)).alloc (.cells #[.string r.nm, .int .i64 r.kind, .int .i64 r.size, .bool r.little, .slice Ab r.bytes.length cb, .slice An r.names.length cn, .slice At r.tags.length ct, .slice Ak r.kids.length ck] 35)) w') => boxed2 e
  have B0 := fun w' e => (BX w' e).1
  have B1 := fun w' e => (BX w' e).2.1
  clear BX
  have t1 : (r.kind == 1) = false := by rw [hk]; rfl
  have t2 : (r.kind == 2) = false := by rw [hk]; rfl
  have t3 : (r.kind == 3) = false := by rw [hk]; rfl
  have t4 : (r.kind == 4) = false := by rw [hk]; rfl
  have t5 : (r.kind == 5) = true := by rw [hk]; rfl
  have t6 : (r.kind == 6) = false := by rw [hk]; rfl
  have t7 : (r.kind == 7) = false := by rw [hk]; rfl
  have t8 : (r.kind == 8) = false := by rw [hk]; rfl
  have t9 : (r.kind == 9) = false := by rw [hk]; rfl
  have t10 : (r.kind == 10) = false := by rw [hk]; rfl
  have HV : Hid ((kindOk ds r) = (plainB r false false false false 2 && (decide (0 < limD ds (r.kids.getD 0 0))))) := by show _ = _; simp [kindOk, hk, Bool.and_assoc]
  rw [HV.out]
  have CP := Lib.hid (fun w => iPlain0000_c r Ab cb An cn At ct Ak ck 2 w h.lens)
  have HKL : Hid (plainB r false false false false 2 = true → r.kids.length = 2) := plainB_kids (k := 2)
  have HPP : Hid ((plainB r false false false false 2) = true → plainB r false false false false 2 = true) := fun hq => hq
  have HKK := Lib.hid (fun hq => HKL.out (HPP.out hq)); clear HKL HPP
  generalize (plainB r false false false false 2) = p at *
  clear HV hk
  have h1 := h.k
  unfold vrule vdesc at *
  cases p
  · go_enter Try.func59, Try.ntmps59
    go_wp2_with fail
    refine wp_region_quiet_below (by kernel_rfl) (by kernel_rfl) ?_
    repeat (go_big_quiet_step ((go_at_call 65; exact Calls.regrown_of (CP.out _))))
    refine wpQuiet_nil ?_
    rintro w1 ⟨⟨nq, osq⟩, hq⟩
    have ew1 := ext_of_q hq
    clear hq nq osq
    go_wp2
    go_ret
    exact ⟨ret_bool (by simp), eb.trans ew1⟩
  have hk0 : 0 < r.kids.length := by have := HKK.out rfl; omega
  obtain ⟨bk, ok, rfl, hbk, hck⟩ := h1.at 0 hk0
  have HG : Hid (r.kids.getD 0 0 = r.kids[0]) := by show _ = _; simp [List.getD_eq_getElem?_getD, List.getElem?_eq_getElem hk0]
  rw [HG.out]
  rw [Nat.add_zero] at hck
  generalize r.kids[0] = kid at *
  have CL := Lib.hid (fun w h => iLimit_c A ds c kid w h)
  unfold vdesc at CL
  generalize limD ds kid = lim at *
  have hck' := fun w' (e : Ext _ w') => hck w' (eb.trans e)
  clear hck h1 h HG HKK
  have hbe := Ext_drew (Ext.refl ((w.alloc (.cells #[.slice A ds.length c] 26)).alloc (.cells #[.string r.nm, .int .i64 r.kind, .int .i64 r.size, .bool r.little, .slice Ab r.bytes.length cb, .slice An r.names.length cn, .slice At r.tags.length ct, .slice (some ⟨bk, ok, none⟩) r.kids.length ck] 35)))
  go_enter Try.func59, Try.ntmps59
  go_wp2_with fail
  refine wp_region_quiet_below (by kernel_rfl) (by kernel_rfl) ?_
  repeat (go_big_quiet_step ((first | (go_at_call 65; exact Calls.regrown_of (CP.out _)) | (go_at_call 66; exact Calls.regrown_of (CL.out _ (hd.ext (eb.trans (by first | assumption | exact Ext_self _ | exact Ext_drew (Ext_self _) | exact Ext_regrown _ _ (Ext_self _)))))))))
  refine wpQuiet_nil ?_
  rintro w1 ⟨⟨nq, osq⟩, hq⟩
  have ew1 := ext_of_q hq
  clear hq nq osq
  go_wp2
  go_ret
  exact ⟨ret_bool (by simp), eb.trans ew1⟩
set_option maxRecDepth 100000 in
set_option maxHeartbeats 4000000 in
theorem iKind6_c (A : Option Addr) (ds : List DRule) (c : Nat) (r : DRule) (Ab : Option Addr) (cb : Nat) (An : Option Addr) (cn : Nat) (At : Option Addr) (ct : Nat) (Ak : Option Addr) (ck : Nat) (w : World) (hd : RdD w A ds c) (h : RdS w r Ab cb An cn At ct Ak ck) (hs : ShortR r) (hw : WfR r) (hk : r.kind = 6) :
    Gives Try.prog 59 #[vdesc (.slice A ds.length c), vrule r (.slice Ab r.bytes.length cb) (.slice An r.names.length cn) (.slice At r.tags.length ct) (.slice Ak r.kids.length ck)] w (.bool (kindOk ds r)) := by
  have eb := Ext_alloc (.cells #[.string r.nm, .int .i64 r.kind, .int .i64 r.size, .bool r.little, .slice Ab r.bytes.length cb, .slice An r.names.length cn, .slice At r.tags.length ct, .slice Ak r.kids.length ck] 35) (Ext_alloc (.cells #[.slice A ds.length c] 26) (Ext.refl w))
  have BX := fun w' (e : Ext ((w.alloc (.cells #[.slice A ds.length c] 26)).alloc (.cells #[.string r.nm, .int .i64 r.kind, .int .i64 r.size, .bool r.little, .slice Ab r.bytes.length cb, .slice An r.names.length cn, .slice At r.tags.length ct, .slice Ak r.kids.length ck] 35)) w') => boxed2 e
  have B0 := fun w' e => (BX w' e).1
  have B1 := fun w' e => (BX w' e).2.1
  clear BX
  have t1 : (r.kind == 1) = false := by rw [hk]; rfl
  have t2 : (r.kind == 2) = false := by rw [hk]; rfl
  have t3 : (r.kind == 3) = false := by rw [hk]; rfl
  have t4 : (r.kind == 4) = false := by rw [hk]; rfl
  have t5 : (r.kind == 5) = false := by rw [hk]; rfl
  have t6 : (r.kind == 6) = true := by rw [hk]; rfl
  have t7 : (r.kind == 7) = false := by rw [hk]; rfl
  have t8 : (r.kind == 8) = false := by rw [hk]; rfl
  have t9 : (r.kind == 9) = false := by rw [hk]; rfl
  have t10 : (r.kind == 10) = false := by rw [hk]; rfl
  have HV : Hid (kindOk ds r = seqOk r) := by show _ = _; simp [kindOk, hk]
  rw [HV.out]
  have C := Lib.hid (fun w h => iSeq_c r Ab cb An cn At ct Ak ck w h hw)
  generalize seqOk r = q at *
  clear HV hk
  unfold vrule vdesc at *
  go_enter Try.func59, Try.ntmps59
  go_wp2_with fail
  refine (C.out _ (h.ext eb)).mono ?_; rintro _ w1 ⟨rfl, he1⟩
  go_wp2
  go_ret
  exact ⟨rfl, eb.trans he1⟩
set_option maxRecDepth 100000 in
set_option maxHeartbeats 4000000 in
theorem iKind7_c (A : Option Addr) (ds : List DRule) (c : Nat) (r : DRule) (Ab : Option Addr) (cb : Nat) (An : Option Addr) (cn : Nat) (At : Option Addr) (ct : Nat) (Ak : Option Addr) (ck : Nat) (w : World) (hd : RdD w A ds c) (h : RdS w r Ab cb An cn At ct Ak ck) (hs : ShortR r) (hw : WfR r) (hk : r.kind = 7) :
    Gives Try.prog 59 #[vdesc (.slice A ds.length c), vrule r (.slice Ab r.bytes.length cb) (.slice An r.names.length cn) (.slice At r.tags.length ct) (.slice Ak r.kids.length ck)] w (.bool (kindOk ds r)) := by
  have eb := Ext_alloc (.cells #[.string r.nm, .int .i64 r.kind, .int .i64 r.size, .bool r.little, .slice Ab r.bytes.length cb, .slice An r.names.length cn, .slice At r.tags.length ct, .slice Ak r.kids.length ck] 35) (Ext_alloc (.cells #[.slice A ds.length c] 26) (Ext.refl w))
  have BX := fun w' (e : Ext ((w.alloc (.cells #[.slice A ds.length c] 26)).alloc (.cells #[.string r.nm, .int .i64 r.kind, .int .i64 r.size, .bool r.little, .slice Ab r.bytes.length cb, .slice An r.names.length cn, .slice At r.tags.length ct, .slice Ak r.kids.length ck] 35)) w') => boxed2 e
  have B0 := fun w' e => (BX w' e).1
  have B1 := fun w' e => (BX w' e).2.1
  clear BX
  have t1 : (r.kind == 1) = false := by rw [hk]; rfl
  have t2 : (r.kind == 2) = false := by rw [hk]; rfl
  have t3 : (r.kind == 3) = false := by rw [hk]; rfl
  have t4 : (r.kind == 4) = false := by rw [hk]; rfl
  have t5 : (r.kind == 5) = false := by rw [hk]; rfl
  have t6 : (r.kind == 6) = false := by rw [hk]; rfl
  have t7 : (r.kind == 7) = true := by rw [hk]; rfl
  have t8 : (r.kind == 8) = false := by rw [hk]; rfl
  have t9 : (r.kind == 9) = false := by rw [hk]; rfl
  have t10 : (r.kind == 10) = false := by rw [hk]; rfl
  have HV : Hid (kindOk ds r = choOk ds r) := by show _ = _; simp [kindOk, hk]
  rw [HV.out]
  have C := Lib.hid (fun w hd h => iChoice_c A ds c r Ab cb An cn At ct Ak ck w hd h hs)
  generalize choOk ds r = q at *
  clear HV hk
  unfold vrule vdesc at *
  go_enter Try.func59, Try.ntmps59
  go_wp2_with fail
  refine (C.out _ (hd.ext eb) (h.ext eb)).mono ?_; rintro _ w1 ⟨rfl, he1⟩
  go_wp2
  go_ret
  exact ⟨rfl, eb.trans he1⟩
set_option maxRecDepth 100000 in
set_option maxHeartbeats 4000000 in
theorem iKind8_c (A : Option Addr) (ds : List DRule) (c : Nat) (r : DRule) (Ab : Option Addr) (cb : Nat) (An : Option Addr) (cn : Nat) (At : Option Addr) (ct : Nat) (Ak : Option Addr) (ck : Nat) (w : World) (hd : RdD w A ds c) (h : RdS w r Ab cb An cn At ct Ak ck) (hs : ShortR r) (hw : WfR r) (hk : r.kind = 8) :
    Gives Try.prog 59 #[vdesc (.slice A ds.length c), vrule r (.slice Ab r.bytes.length cb) (.slice An r.names.length cn) (.slice At r.tags.length ct) (.slice Ak r.kids.length ck)] w (.bool (kindOk ds r)) := by
  have eb := Ext_alloc (.cells #[.string r.nm, .int .i64 r.kind, .int .i64 r.size, .bool r.little, .slice Ab r.bytes.length cb, .slice An r.names.length cn, .slice At r.tags.length ct, .slice Ak r.kids.length ck] 35) (Ext_alloc (.cells #[.slice A ds.length c] 26) (Ext.refl w))
  have BX := fun w' (e : Ext ((w.alloc (.cells #[.slice A ds.length c] 26)).alloc (.cells #[.string r.nm, .int .i64 r.kind, .int .i64 r.size, .bool r.little, .slice Ab r.bytes.length cb, .slice An r.names.length cn, .slice At r.tags.length ct, .slice Ak r.kids.length ck] 35)) w') => boxed2 e
  have B0 := fun w' e => (BX w' e).1
  have B1 := fun w' e => (BX w' e).2.1
  clear BX
  have t1 : (r.kind == 1) = false := by rw [hk]; rfl
  have t2 : (r.kind == 2) = false := by rw [hk]; rfl
  have t3 : (r.kind == 3) = false := by rw [hk]; rfl
  have t4 : (r.kind == 4) = false := by rw [hk]; rfl
  have t5 : (r.kind == 5) = false := by rw [hk]; rfl
  have t6 : (r.kind == 6) = false := by rw [hk]; rfl
  have t7 : (r.kind == 7) = false := by rw [hk]; rfl
  have t8 : (r.kind == 8) = true := by rw [hk]; rfl
  have t9 : (r.kind == 9) = false := by rw [hk]; rfl
  have t10 : (r.kind == 10) = false := by rw [hk]; rfl
  have HV : Hid ((kindOk ds r) = (plainB r false false false false 1)) := by show _ = _; simp [kindOk, hk]
  rw [HV.out]
  have CP := Lib.hid (fun w => iPlain0000_c r Ab cb An cn At ct Ak ck 1 w h.lens)
  generalize (plainB r false false false false 1) = p at *
  clear HV hk
  unfold vrule vdesc at *
  go_enter Try.func59, Try.ntmps59
  go_wp2_with fail
  refine (CP.out _).mono ?_; rintro _ w1 ⟨rfl, he1⟩
  go_wp2
  go_ret
  exact ⟨rfl, eb.trans he1⟩
set_option maxRecDepth 100000 in
set_option maxHeartbeats 4000000 in
theorem iKind9_c (A : Option Addr) (ds : List DRule) (c : Nat) (r : DRule) (Ab : Option Addr) (cb : Nat) (An : Option Addr) (cn : Nat) (At : Option Addr) (ct : Nat) (Ak : Option Addr) (ck : Nat) (w : World) (hd : RdD w A ds c) (h : RdS w r Ab cb An cn At ct Ak ck) (hs : ShortR r) (hw : WfR r) (hk : r.kind = 9) :
    Gives Try.prog 59 #[vdesc (.slice A ds.length c), vrule r (.slice Ab r.bytes.length cb) (.slice An r.names.length cn) (.slice At r.tags.length ct) (.slice Ak r.kids.length ck)] w (.bool (kindOk ds r)) := by
  have eb := Ext_alloc (.cells #[.string r.nm, .int .i64 r.kind, .int .i64 r.size, .bool r.little, .slice Ab r.bytes.length cb, .slice An r.names.length cn, .slice At r.tags.length ct, .slice Ak r.kids.length ck] 35) (Ext_alloc (.cells #[.slice A ds.length c] 26) (Ext.refl w))
  have BX := fun w' (e : Ext ((w.alloc (.cells #[.slice A ds.length c] 26)).alloc (.cells #[.string r.nm, .int .i64 r.kind, .int .i64 r.size, .bool r.little, .slice Ab r.bytes.length cb, .slice An r.names.length cn, .slice At r.tags.length ct, .slice Ak r.kids.length ck] 35)) w') => boxed2 e
  have B0 := fun w' e => (BX w' e).1
  have B1 := fun w' e => (BX w' e).2.1
  clear BX
  have t1 : (r.kind == 1) = false := by rw [hk]; rfl
  have t2 : (r.kind == 2) = false := by rw [hk]; rfl
  have t3 : (r.kind == 3) = false := by rw [hk]; rfl
  have t4 : (r.kind == 4) = false := by rw [hk]; rfl
  have t5 : (r.kind == 5) = false := by rw [hk]; rfl
  have t6 : (r.kind == 6) = false := by rw [hk]; rfl
  have t7 : (r.kind == 7) = false := by rw [hk]; rfl
  have t8 : (r.kind == 8) = false := by rw [hk]; rfl
  have t9 : (r.kind == 9) = true := by rw [hk]; rfl
  have t10 : (r.kind == 10) = false := by rw [hk]; rfl
  have HV : Hid ((kindOk ds r) = (plainB r false false false false 1)) := by show _ = _; simp [kindOk, hk]
  rw [HV.out]
  have CP := Lib.hid (fun w => iPlain0000_c r Ab cb An cn At ct Ak ck 1 w h.lens)
  generalize (plainB r false false false false 1) = p at *
  clear HV hk
  unfold vrule vdesc at *
  go_enter Try.func59, Try.ntmps59
  go_wp2_with fail
  refine (CP.out _).mono ?_; rintro _ w1 ⟨rfl, he1⟩
  go_wp2
  go_ret
  exact ⟨rfl, eb.trans he1⟩
set_option maxRecDepth 100000 in
set_option maxHeartbeats 4000000 in
theorem iKind10_c (A : Option Addr) (ds : List DRule) (c : Nat) (r : DRule) (Ab : Option Addr) (cb : Nat) (An : Option Addr) (cn : Nat) (At : Option Addr) (ct : Nat) (Ak : Option Addr) (ck : Nat) (w : World) (hd : RdD w A ds c) (h : RdS w r Ab cb An cn At ct Ak ck) (hs : ShortR r) (hw : WfR r) (hk : r.kind = 10) :
    Gives Try.prog 59 #[vdesc (.slice A ds.length c), vrule r (.slice Ab r.bytes.length cb) (.slice An r.names.length cn) (.slice At r.tags.length ct) (.slice Ak r.kids.length ck)] w (.bool (kindOk ds r)) := by
  have eb := Ext_alloc (.cells #[.string r.nm, .int .i64 r.kind, .int .i64 r.size, .bool r.little, .slice Ab r.bytes.length cb, .slice An r.names.length cn, .slice At r.tags.length ct, .slice Ak r.kids.length ck] 35) (Ext_alloc (.cells #[.slice A ds.length c] 26) (Ext.refl w))
  have BX := fun w' (e : Ext ((w.alloc (.cells #[.slice A ds.length c] 26)).alloc (.cells #[.string r.nm, .int .i64 r.kind, .int .i64 r.size, .bool r.little, .slice Ab r.bytes.length cb, .slice An r.names.length cn, .slice At r.tags.length ct, .slice Ak r.kids.length ck] 35)) w') => boxed2 e
  have B0 := fun w' e => (BX w' e).1
  have B1 := fun w' e => (BX w' e).2.1
  clear BX
  have t1 : (r.kind == 1) = false := by rw [hk]; rfl
  have t2 : (r.kind == 2) = false := by rw [hk]; rfl
  have t3 : (r.kind == 3) = false := by rw [hk]; rfl
  have t4 : (r.kind == 4) = false := by rw [hk]; rfl
  have t5 : (r.kind == 5) = false := by rw [hk]; rfl
  have t6 : (r.kind == 6) = false := by rw [hk]; rfl
  have t7 : (r.kind == 7) = false := by rw [hk]; rfl
  have t8 : (r.kind == 8) = false := by rw [hk]; rfl
  have t9 : (r.kind == 9) = false := by rw [hk]; rfl
  have t10 : (r.kind == 10) = true := by rw [hk]; rfl
  have HV : Hid ((kindOk ds r) = (plainB r false true false false 0 && (r.bytes.length == 1 && !(r.bytes.getD 0 0 == 92)))) := by show _ = _; simp [kindOk, hk, Bool.and_assoc]
  rw [HV.out]
  have CP := Lib.hid (fun w => iPlain0100_c r Ab cb An cn At ct Ak ck 0 w h.lens)
  generalize (plainB r false true false false 0) = p at *
  clear HV hk
  have h1 := h.b
  have hlb := h1.len
  unfold vrule vdesc at *
  cases p
  · go_enter Try.func59, Try.ntmps59
    go_wp2_with fail
    refine (CP.out _).mono ?_; rintro _ w1 ⟨rfl, he1⟩
    go_wp2
    go_ret
    exact ⟨ret_bool (by simp), eb.trans he1⟩
  by_cases hl : r.bytes.length = 1
  · have hk0 : 0 < r.bytes.length := by omega
    obtain ⟨bb, ob, rfl, hbb, hcb⟩ := h1.at 0 hk0
    have HG : Hid (r.bytes.getD 0 0 = r.bytes[0]) := by show _ = _; simp [List.getD_eq_getElem?_getD, List.getElem?_eq_getElem hk0]
    rw [HG.out]
    rw [Nat.add_zero] at hcb
    generalize r.bytes[0] = x at *
    have hck' := fun w' (e : Ext _ w') => hcb w' (eb.trans e)
    have l1 : ((r.bytes.length : Int) == 1) = true := by simp [hl]
    have HL : Hid ((r.bytes.length == 1) = true) := by show _ = _; simp [hl]
    rw [HL.out]
    have HX : Hid ((!(x == 92)) = ((x.toNat : Int) != 92)) := by
      show _ = _
      rw [bne]; congr 1
      rw [Bool.eq_iff_iff]; simp only [beq_iff_eq]
      constructor
      · rintro rfl; rfl
      · intro hx; exact u8_inj (by simpa using hx)
    rw [HX.out]
    clear hcb h1 h HG hl HL HX
    go_enter Try.func59, Try.ntmps59
    go_wp2_with fail
    refine (CP.out _).mono ?_; rintro _ w1 ⟨rfl, he1⟩
    go_wp2
    go_ret
    exact ⟨ret_bool (by simp), eb.trans he1⟩
  · have l1 : ((r.bytes.length : Int) == 1) = false := by simp; omega
    have HL : Hid ((r.bytes.length == 1) = false) := by show _ = _; simpa using hl
    rw [HL.out]
    clear hl HL
    go_enter Try.func59, Try.ntmps59
    go_wp2_with fail
    refine (CP.out _).mono ?_; rintro _ w1 ⟨rfl, he1⟩
    go_wp2
    go_ret
    exact ⟨ret_bool (by simp), eb.trans he1⟩
set_option maxRecDepth 100000 in
set_option maxHeartbeats 4000000 in
theorem iKindX_c (A : Option Addr) (ds : List DRule) (c : Nat) (r : DRule) (Ab : Option Addr) (cb : Nat) (An : Option Addr) (cn : Nat) (At : Option Addr) (ct : Nat) (Ak : Option Addr) (ck : Nat) (w : World) (hd : RdD w A ds c) (h : RdS w r Ab cb An cn At ct Ak ck) (hs : ShortR r) (hw : WfR r) (hk : r.kind < 1 ∨ 10 < r.kind) :
    Gives Try.prog 59 #[vdesc (.slice A ds.length c), vrule r (.slice Ab r.bytes.length cb) (.slice An r.names.length cn) (.slice At r.tags.length ct) (.slice Ak r.kids.length ck)] w (.bool (kindOk ds r)) := by
  have eb := Ext_alloc (.cells #[.string r.nm, .int .i64 r.kind, .int .i64 r.size, .bool r.little, .slice Ab r.bytes.length cb, .slice An r.names.length cn, .slice At r.tags.length ct, .slice Ak r.kids.length ck] 35) (Ext_alloc (.cells #[.slice A ds.length c] 26) (Ext.refl w))
  have BX := fun w' (e : Ext ((w.alloc (.cells #[.slice A ds.length c] 26)).alloc (.cells #[.string r.nm, .int .i64 r.kind, .int .i64 r.size, .bool r.little, .slice Ab r.bytes.length cb, .slice An r.names.length cn, .slice At r.tags.length ct, .slice Ak r.kids.length ck] 35)) w') => boxed2 e
  have B0 := fun w' e => (BX w' e).1
  have B1 := fun w' e => (BX w' e).2.1
  clear BX
  have t1 : (r.kind == 1) = false := by simp; omega
  have t2 : (r.kind == 2) = false := by simp; omega
  have t3 : (r.kind == 3) = false := by simp; omega
  have t4 : (r.kind == 4) = false := by simp; omega
  have t5 : (r.kind == 5) = false := by simp; omega
  have t6 : (r.kind == 6) = false := by simp; omega
  have t7 : (r.kind == 7) = false := by simp; omega
  have t8 : (r.kind == 8) = false := by simp; omega
  have t9 : (r.kind == 9) = false := by simp; omega
  have t10 : (r.kind == 10) = false := by simp; omega
  have HV : Hid ((kindOk ds r) = false) := by
    show _ = _; unfold kindOk
    rw [if_neg (by omega), if_neg (by omega), if_neg (by omega), if_neg (by omega), if_neg (by omega), if_neg (by omega), if_neg (by omega), if_neg (by omega), if_neg (by omega), if_neg (by omega)]
  rw [HV.out]
  clear HV hk
  unfold vrule vdesc at *
  go_enter Try.func59, Try.ntmps59
  go_wp2
  go_ret
  exact ⟨rfl, eb⟩
end Go.Proofs.Ytophjmphjdhjoaa

/- Kinds of rules, of the reference. -/
namespace Go.Proofs.Ytophjmphjdhjoaa
open Go.RowKit Go.Sort

set_option maxRecDepth 100000 in
set_option maxHeartbeats 4000000 in
theorem sKind1_c (A : Option Addr) (ds : List DRule) (c : Nat) (r : DRule) (Ab : Option Addr) (cb : Nat) (An : Option Addr) (cn : Nat) (At : Option Addr) (ct : Nat) (Ak : Option Addr) (ck : Nat) (w : World) (hd : RdD w A ds c) (h : RdS w r Ab cb An cn At ct Ak ck) (hs : ShortR r) (hw : WfR r) (hk : r.kind = 1) :
    Gives Try.prog 51 #[vdesc (.slice A ds.length c), vrule r (.slice Ab r.bytes.length cb) (.slice An r.names.length cn) (.slice At r.tags.length ct) (.slice Ak r.kids.length ck)] w (.bool ((!r.little || r.kind == 1) && kindOk ds r)) := by
  have eb := Ext_alloc (.cells #[.string r.nm, .int .i64 r.kind, .int .i64 r.size, .bool r.little, .slice Ab r.bytes.length cb, .slice An r.names.length cn, .slice At r.tags.length ct, .slice Ak r.kids.length ck] 35) (Ext_alloc (.cells #[.slice A ds.length c] 26) (Ext.refl w))
  have BX := fun w' (e : Ext ((w.alloc (.cells #[.slice A ds.length c] 26)).alloc (.cells #[.string r.nm, .int .i64 r.kind, .int .i64 r.size, .bool r.little, .slice Ab r.bytes.length cb, .slice An r.names.length cn, .slice At r.tags.length ct, .slice Ak r.kids.length ck] 35)) w') => boxed2 e
  have B0 := fun w' e => (BX w' e).1
  have B1 := fun w' e => (BX w' e).2.1
  clear BX
  have t1 : (r.kind == 1) = true := by rw [hk]; rfl
  have t2 : (r.kind == 2) = false := by rw [hk]; rfl
  have t3 : (r.kind == 3) = false := by rw [hk]; rfl
  have t4 : (r.kind == 4) = false := by rw [hk]; rfl
  have t5 : (r.kind == 5) = false := by rw [hk]; rfl
  have t6 : (r.kind == 6) = false := by rw [hk]; rfl
  have t7 : (r.kind == 7) = false := by rw [hk]; rfl
  have t8 : (r.kind == 8) = false := by rw [hk]; rfl
  have t9 : (r.kind == 9) = false := by rw [hk]; rfl
  have t10 : (r.kind == 10) = false := by rw [hk]; rfl
  have HV : Hid (((!r.little || r.kind == 1) && kindOk ds r) = ((plainB r true false false false 0 && (!r.little || r.kind == 1)) && (between r.size 1 4 && (!r.little || decide (1 < r.size))))) := by
    have : kindOk ds r = (plainB r true false false false 0 && (between r.size 1 4 && (!r.little || decide (1 < r.size)))) := by simp [kindOk, hk, Bool.and_assoc]
    show _ = _; rw [this]; cases (!r.little || r.kind == 1) <;> simp
  rw [HV.out]
  have CP := Lib.hid (fun w => sShape1000_c r Ab cb An cn At ct Ak ck 0 w h.lens)
  generalize (plainB r true false false false 0 && (!r.little || r.kind == 1)) = p at *
  clear HV hk
  have CI := Lib.hid (fun w => l1In_c r.size 1 4 w)
  have HB : Hid (between r.size 1 4 = (decide (((1) : Int) ≤ r.size) && decide (r.size ≤ 4))) := rfl
  rw [← HB.out] at CI
  clear HB
  generalize between r.size 1 4 = q at *
  unfold vrule vdesc at *
  cases p
  · go_enter Try.func51, Try.ntmps51
    go_wp2_with fail
    refine (CP.out _).mono ?_; rintro _ w1 ⟨rfl, he1⟩
    go_wp2
    go_ret
    exact ⟨ret_bool (by simp), eb.trans he1⟩
  cases q
  · go_enter Try.func51, Try.ntmps51
    go_wp2_with fail
    refine (CP.out _).mono ?_; rintro _ w1 ⟨rfl, he1⟩
    go_wp2_with fail
    refine (CI.out _).mono ?_; rintro _ w2 ⟨rfl, he2⟩
    go_wp2
    go_ret
    exact ⟨ret_bool (by simp), eb.trans (he1.trans he2)⟩
  generalize r.little = li at *
  cases li
  all_goals
    cases hz : decide (1 < r.size)
    all_goals
      go_enter Try.func51, Try.ntmps51
      go_wp2_with fail
      refine (CP.out _).mono ?_; rintro _ w1 ⟨rfl, he1⟩
      go_wp2_with fail
      refine (CI.out _).mono ?_; rintro _ w2 ⟨rfl, he2⟩
      have e2 := he1.trans he2
      go_wp2
      go_ret
      exact ⟨ret_bool (by simp), eb.trans e2⟩
set_option maxRecDepth 100000 in
set_option maxHeartbeats 4000000 in
theorem sKind2_c (A : Option Addr) (ds : List DRule) (c : Nat) (r : DRule) (Ab : Option Addr) (cb : Nat) (An : Option Addr) (cn : Nat) (At : Option Addr) (ct : Nat) (Ak : Option Addr) (ck : Nat) (w : World) (hd : RdD w A ds c) (h : RdS w r Ab cb An cn At ct Ak ck) (hs : ShortR r) (hw : WfR r) (hk : r.kind = 2) :
    Gives Try.prog 51 #[vdesc (.slice A ds.length c), vrule r (.slice Ab r.bytes.length cb) (.slice An r.names.length cn) (.slice At r.tags.length ct) (.slice Ak r.kids.length ck)] w (.bool ((!r.little || r.kind == 1) && kindOk ds r)) := by
  have eb := Ext_alloc (.cells #[.string r.nm, .int .i64 r.kind, .int .i64 r.size, .bool r.little, .slice Ab r.bytes.length cb, .slice An r.names.length cn, .slice At r.tags.length ct, .slice Ak r.kids.length ck] 35) (Ext_alloc (.cells #[.slice A ds.length c] 26) (Ext.refl w))
  have BX := fun w' (e : Ext ((w.alloc (.cells #[.slice A ds.length c] 26)).alloc (.cells #[.string r.nm, .int .i64 r.kind, .int .i64 r.size, .bool r.little, .slice Ab r.bytes.length cb, .slice An r.names.length cn, .slice At r.tags.length ct, .slice Ak r.kids.length ck] 35)) w') => boxed2 e
  have B0 := fun w' e => (BX w' e).1
  have B1 := fun w' e => (BX w' e).2.1
  clear BX
  have t1 : (r.kind == 1) = false := by rw [hk]; rfl
  have t2 : (r.kind == 2) = true := by rw [hk]; rfl
  have t3 : (r.kind == 3) = false := by rw [hk]; rfl
  have t4 : (r.kind == 4) = false := by rw [hk]; rfl
  have t5 : (r.kind == 5) = false := by rw [hk]; rfl
  have t6 : (r.kind == 6) = false := by rw [hk]; rfl
  have t7 : (r.kind == 7) = false := by rw [hk]; rfl
  have t8 : (r.kind == 8) = false := by rw [hk]; rfl
  have t9 : (r.kind == 9) = false := by rw [hk]; rfl
  have t10 : (r.kind == 10) = false := by rw [hk]; rfl
  have HV : Hid (((!r.little || r.kind == 1) && kindOk ds r) = ((plainB r false true false false 0 && (!r.little || r.kind == 1)) && (between r.bytes.length 1 16))) := by
    have : kindOk ds r = (plainB r false true false false 0 && (between r.bytes.length 1 16)) := by simp [kindOk, hk, Bool.and_assoc]
    show _ = _; rw [this]; cases (!r.little || r.kind == 1) <;> simp
  rw [HV.out]
  have CP := Lib.hid (fun w => sShape0100_c r Ab cb An cn At ct Ak ck 0 w h.lens)
  generalize (plainB r false true false false 0 && (!r.little || r.kind == 1)) = p at *
  clear HV hk
  have CI := Lib.hid (fun w => l1In_c (r.bytes.length : Int) 1 16 w)
  have HB : Hid (between r.bytes.length 1 16 = (decide (((1) : Int) ≤ (r.bytes.length : Int)) && decide ((r.bytes.length : Int) ≤ 16))) := rfl
  rw [← HB.out] at CI
  clear HB
  generalize between r.bytes.length 1 16 = q at *
  have hlb := h.lens.1
  unfold vrule vdesc at *
  cases p
  · go_enter Try.func51, Try.ntmps51
    go_wp2_with fail
    refine (CP.out _).mono ?_; rintro _ w1 ⟨rfl, he1⟩
    go_wp2
    go_ret
    exact ⟨ret_bool (by simp), eb.trans he1⟩
  go_enter Try.func51, Try.ntmps51
  go_wp2_with fail
  refine (CP.out _).mono ?_; rintro _ w1 ⟨rfl, he1⟩
  go_wp2_with fail
  refine (CI.out _).mono ?_; rintro _ w2 ⟨rfl, he2⟩
  go_wp2
  go_ret
  exact ⟨ret_bool (by simp), eb.trans (he1.trans he2)⟩
set_option maxRecDepth 100000 in
set_option maxHeartbeats 4000000 in
theorem sKind3_c (A : Option Addr) (ds : List DRule) (c : Nat) (r : DRule) (Ab : Option Addr) (cb : Nat) (An : Option Addr) (cn : Nat) (At : Option Addr) (ct : Nat) (Ak : Option Addr) (ck : Nat) (w : World) (hd : RdD w A ds c) (h : RdS w r Ab cb An cn At ct Ak ck) (hs : ShortR r) (hw : WfR r) (hk : r.kind = 3) :
    Gives Try.prog 51 #[vdesc (.slice A ds.length c), vrule r (.slice Ab r.bytes.length cb) (.slice An r.names.length cn) (.slice At r.tags.length ct) (.slice Ak r.kids.length ck)] w (.bool ((!r.little || r.kind == 1) && kindOk ds r)) := by
  have eb := Ext_alloc (.cells #[.string r.nm, .int .i64 r.kind, .int .i64 r.size, .bool r.little, .slice Ab r.bytes.length cb, .slice An r.names.length cn, .slice At r.tags.length ct, .slice Ak r.kids.length ck] 35) (Ext_alloc (.cells #[.slice A ds.length c] 26) (Ext.refl w))
  have BX := fun w' (e : Ext ((w.alloc (.cells #[.slice A ds.length c] 26)).alloc (.cells #[.string r.nm, .int .i64 r.kind, .int .i64 r.size, .bool r.little, .slice Ab r.bytes.length cb, .slice An r.names.length cn, .slice At r.tags.length ct, .slice Ak r.kids.length ck] 35)) w') => boxed2 e
  have B0 := fun w' e => (BX w' e).1
  have B1 := fun w' e => (BX w' e).2.1
  clear BX
  have t1 : (r.kind == 1) = false := by rw [hk]; rfl
  have t2 : (r.kind == 2) = false := by rw [hk]; rfl
  have t3 : (r.kind == 3) = true := by rw [hk]; rfl
  have t4 : (r.kind == 4) = false := by rw [hk]; rfl
  have t5 : (r.kind == 5) = false := by rw [hk]; rfl
  have t6 : (r.kind == 6) = false := by rw [hk]; rfl
  have t7 : (r.kind == 7) = false := by rw [hk]; rfl
  have t8 : (r.kind == 8) = false := by rw [hk]; rfl
  have t9 : (r.kind == 9) = false := by rw [hk]; rfl
  have t10 : (r.kind == 10) = false := by rw [hk]; rfl
  have HV : Hid (((!r.little || r.kind == 1) && kindOk ds r) = ((plainB r true false false false 0 && (!r.little || r.kind == 1)) && (between r.size 1 64))) := by
    have : kindOk ds r = (plainB r true false false false 0 && (between r.size 1 64)) := by simp [kindOk, hk, Bool.and_assoc]
    show _ = _; rw [this]; cases (!r.little || r.kind == 1) <;> simp
  rw [HV.out]
  have CP := Lib.hid (fun w => sShape1000_c r Ab cb An cn At ct Ak ck 0 w h.lens)
  generalize (plainB r true false false false 0 && (!r.little || r.kind == 1)) = p at *
  clear HV hk
  have CI := Lib.hid (fun w => l1In_c r.size 1 64 w)
  have HB : Hid (between r.size 1 64 = (decide (((1) : Int) ≤ r.size) && decide (r.size ≤ 64))) := rfl
  rw [← HB.out] at CI
  clear HB
  generalize between r.size 1 64 = q at *
  have hlb := h.lens.1
  unfold vrule vdesc at *
  cases p
  · go_enter Try.func51, Try.ntmps51
    go_wp2_with fail
    refine (CP.out _).mono ?_; rintro _ w1 ⟨rfl, he1⟩
    go_wp2
    go_ret
    exact ⟨ret_bool (by simp), eb.trans he1⟩
  go_enter Try.func51, Try.ntmps51
  go_wp2_with fail
  refine (CP.out _).mono ?_; rintro _ w1 ⟨rfl, he1⟩
  go_wp2_with fail
  refine (CI.out _).mono ?_; rintro _ w2 ⟨rfl, he2⟩
  go_wp2
  go_ret
  exact ⟨ret_bool (by simp), eb.trans (he1.trans he2)⟩
set_option maxRecDepth 100000 in
set_option maxHeartbeats 4000000 in
theorem sKind4_c (A : Option Addr) (ds : List DRule) (c : Nat) (r : DRule) (Ab : Option Addr) (cb : Nat) (An : Option Addr) (cn : Nat) (At : Option Addr) (ct : Nat) (Ak : Option Addr) (ck : Nat) (w : World) (hd : RdD w A ds c) (h : RdS w r Ab cb An cn At ct Ak ck) (hs : ShortR r) (hw : WfR r) (hk : r.kind = 4) :
    Gives Try.prog 51 #[vdesc (.slice A ds.length c), vrule r (.slice Ab r.bytes.length cb) (.slice An r.names.length cn) (.slice At r.tags.length ct) (.slice Ak r.kids.length ck)] w (.bool ((!r.little || r.kind == 1) && kindOk ds r)) := by
  have eb := Ext_alloc (.cells #[.string r.nm, .int .i64 r.kind, .int .i64 r.size, .bool r.little, .slice Ab r.bytes.length cb, .slice An r.names.length cn, .slice At r.tags.length ct, .slice Ak r.kids.length ck] 35) (Ext_alloc (.cells #[.slice A ds.length c] 26) (Ext.refl w))
  have BX := fun w' (e : Ext ((w.alloc (.cells #[.slice A ds.length c] 26)).alloc (.cells #[.string r.nm, .int .i64 r.kind, .int .i64 r.size, .bool r.little, .slice Ab r.bytes.length cb, .slice An r.names.length cn, .slice At r.tags.length ct, .slice Ak r.kids.length ck] 35)) w') => boxed2 e
  have B0 := fun w' e => (BX w' e).1
  have B1 := fun w' e => (BX w' e).2.1
  clear BX
  have t1 : (r.kind == 1) = false := by rw [hk]; rfl
  have t2 : (r.kind == 2) = false := by rw [hk]; rfl
  have t3 : (r.kind == 3) = false := by rw [hk]; rfl
  have t4 : (r.kind == 4) = true := by rw [hk]; rfl
  have t5 : (r.kind == 5) = false := by rw [hk]; rfl
  have t6 : (r.kind == 6) = false := by rw [hk]; rfl
  have t7 : (r.kind == 7) = false := by rw [hk]; rfl
  have t8 : (r.kind == 8) = false := by rw [hk]; rfl
  have t9 : (r.kind == 9) = false := by rw [hk]; rfl
  have t10 : (r.kind == 10) = false := by rw [hk]; rfl
  have HV : Hid (((!r.little || r.kind == 1) && kindOk ds r) = ((plainB r false false false false 1 && (!r.little || r.kind == 1)) && (decide (0 < limD ds (r.kids.getD 0 0))))) := by
    have : kindOk ds r = (plainB r false false false false 1 && (decide (0 < limD ds (r.kids.getD 0 0)))) := by simp [kindOk, hk, Bool.and_assoc]
    show _ = _; rw [this]; cases (!r.little || r.kind == 1) <;> simp
  rw [HV.out]
  have CP := Lib.hid (fun w => sShape0000_c r Ab cb An cn At ct Ak ck 1 w h.lens)
  have HKL : Hid (plainB r false false false false 1 = true → r.kids.length = 1) := plainB_kids (k := 1)
  have HPP : Hid ((plainB r false false false false 1 && (!r.little || r.kind == 1)) = true → plainB r false false false false 1 = true) := by intro hq; rw [Bool.and_eq_true] at hq; exact hq.1
  have HKK := Lib.hid (fun hq => HKL.out (HPP.out hq)); clear HKL HPP
  generalize (plainB r false false false false 1 && (!r.little || r.kind == 1)) = p at *
  clear HV hk
  have h1 := h.k
  unfold vrule vdesc at *
  cases p
  · go_enter Try.func51, Try.ntmps51
    go_wp2_with fail
    refine wp_region_quiet_below (by kernel_rfl) (by kernel_rfl) ?_
    repeat (go_big_quiet_step ((go_at_call 60; exact Calls.regrown_of (CP.out _))))
    refine wpQuiet_nil ?_
    rintro w1 ⟨⟨nq, osq⟩, hq⟩
    have ew1 := ext_of_q hq
    clear hq nq osq
    go_wp2
    go_ret
    exact ⟨ret_bool (by simp), eb.trans ew1⟩
  have hk0 : 0 < r.kids.length := by have := HKK.out rfl; omega
  obtain ⟨bk, ok, rfl, hbk, hck⟩ := h1.at 0 hk0
  have HG : Hid (r.kids.getD 0 0 = r.kids[0]) := by show _ = _; simp [List.getD_eq_getElem?_getD, List.getElem?_eq_getElem hk0]
  rw [HG.out]
  rw [Nat.add_zero] at hck
  generalize r.kids[0] = kid at *
  have CL := Lib.hid (fun w h => sLimit_c A ds c kid w h)
  unfold vdesc at CL
  generalize limD ds kid = lim at *
  have hck' := fun w' (e : Ext _ w') => hck w' (eb.trans e)
  clear hck h1 h HG HKK
  have hbe := Ext_drew (Ext.refl ((w.alloc (.cells #[.slice A ds.length c] 26)).alloc (.cells #[.string r.nm, .int .i64 r.kind, .int .i64 r.size, .bool r.little, .slice Ab r.bytes.length cb, .slice An r.names.length cn, .slice At r.tags.length ct, .slice (some ⟨bk, ok, none⟩) r.kids.length ck] 35)))
  go_enter Try.func51, Try.ntmps51
  go_wp2_with fail
  refine wp_region_quiet_below (by kernel_rfl) (by kernel_rfl) ?_
  repeat (go_big_quiet_step ((first | (go_at_call 60; exact Calls.regrown_of (CP.out _)) | (go_at_call 61; exact Calls.regrown_of (CL.out _ (hd.ext (eb.trans (by first | assumption | exact Ext_self _ | exact Ext_drew (Ext_self _) | exact Ext_regrown _ _ (Ext_self _)))))))))
  refine wpQuiet_nil ?_
  rintro w1 ⟨⟨nq, osq⟩, hq⟩
  have ew1 := ext_of_q hq
  clear hq nq osq
  go_wp2
  go_ret
  exact ⟨ret_bool (by simp), eb.trans ew1⟩
set_option maxRecDepth 100000 in
set_option maxHeartbeats 4000000 in
theorem sKind5_c (A : Option Addr) (ds : List DRule) (c : Nat) (r : DRule) (Ab : Option Addr) (cb : Nat) (An : Option Addr) (cn : Nat) (At : Option Addr) (ct : Nat) (Ak : Option Addr) (ck : Nat) (w : World) (hd : RdD w A ds c) (h : RdS w r Ab cb An cn At ct Ak ck) (hs : ShortR r) (hw : WfR r) (hk : r.kind = 5) :
    Gives Try.prog 51 #[vdesc (.slice A ds.length c), vrule r (.slice Ab r.bytes.length cb) (.slice An r.names.length cn) (.slice At r.tags.length ct) (.slice Ak r.kids.length ck)] w (.bool ((!r.little || r.kind == 1) && kindOk ds r)) := by
  have eb := Ext_alloc (.cells #[.string r.nm, .int .i64 r.kind, .int .i64 r.size, .bool r.little, .slice Ab r.bytes.length cb, .slice An r.names.length cn, .slice At r.tags.length ct, .slice Ak r.kids.length ck] 35) (Ext_alloc (.cells #[.slice A ds.length c] 26) (Ext.refl w))
  have BX := fun w' (e : Ext ((w.alloc (.cells #[.slice A ds.length c] 26)).alloc (.cells #[.string r.nm, .int .i64 r.kind, .int .i64 r.size, .bool r.little, .slice Ab r.bytes.length cb, .slice An r.names.length cn, .slice At r.tags.length ct, .slice Ak r.kids.length ck] 35)) w') => boxed2 e
  have B0 := fun w' e => (BX w' e).1
  have B1 := fun w' e => (BX w' e).2.1
  clear BX
  have t1 : (r.kind == 1) = false := by rw [hk]; rfl
  have t2 : (r.kind == 2) = false := by rw [hk]; rfl
  have t3 : (r.kind == 3) = false := by rw [hk]; rfl
  have t4 : (r.kind == 4) = false := by rw [hk]; rfl
  have t5 : (r.kind == 5) = true := by rw [hk]; rfl
  have t6 : (r.kind == 6) = false := by rw [hk]; rfl
  have t7 : (r.kind == 7) = false := by rw [hk]; rfl
  have t8 : (r.kind == 8) = false := by rw [hk]; rfl
  have t9 : (r.kind == 9) = false := by rw [hk]; rfl
  have t10 : (r.kind == 10) = false := by rw [hk]; rfl
  have HV : Hid (((!r.little || r.kind == 1) && kindOk ds r) = ((plainB r false false false false 2 && (!r.little || r.kind == 1)) && (decide (0 < limD ds (r.kids.getD 0 0))))) := by
    have : kindOk ds r = (plainB r false false false false 2 && (decide (0 < limD ds (r.kids.getD 0 0)))) := by simp [kindOk, hk, Bool.and_assoc]
    show _ = _; rw [this]; cases (!r.little || r.kind == 1) <;> simp
  rw [HV.out]
  have CP := Lib.hid (fun w => sShape0000_c r Ab cb An cn At ct Ak ck 2 w h.lens)
  have HKL : Hid (plainB r false false false false 2 = true → r.kids.length = 2) := plainB_kids (k := 2)
  have HPP : Hid ((plainB r false false false false 2 && (!r.little || r.kind == 1)) = true → plainB r false false false false 2 = true) := by intro hq; rw [Bool.and_eq_true] at hq; exact hq.1
  have HKK := Lib.hid (fun hq => HKL.out (HPP.out hq)); clear HKL HPP
  generalize (plainB r false false false false 2 && (!r.little || r.kind == 1)) = p at *
  clear HV hk
  have h1 := h.k
  unfold vrule vdesc at *
  cases p
  · go_enter Try.func51, Try.ntmps51
    go_wp2_with fail
    refine wp_region_quiet_below (by kernel_rfl) (by kernel_rfl) ?_
    repeat (go_big_quiet_step ((go_at_call 60; exact Calls.regrown_of (CP.out _))))
    refine wpQuiet_nil ?_
    rintro w1 ⟨⟨nq, osq⟩, hq⟩
    have ew1 := ext_of_q hq
    clear hq nq osq
    go_wp2
    go_ret
    exact ⟨ret_bool (by simp), eb.trans ew1⟩
  have hk0 : 0 < r.kids.length := by have := HKK.out rfl; omega
  obtain ⟨bk, ok, rfl, hbk, hck⟩ := h1.at 0 hk0
  have HG : Hid (r.kids.getD 0 0 = r.kids[0]) := by show _ = _; simp [List.getD_eq_getElem?_getD, List.getElem?_eq_getElem hk0]
  rw [HG.out]
  rw [Nat.add_zero] at hck
  generalize r.kids[0] = kid at *
  have CL := Lib.hid (fun w h => sLimit_c A ds c kid w h)
  unfold vdesc at CL
  generalize limD ds kid = lim at *
  have hck' := fun w' (e : Ext _ w') => hck w' (eb.trans e)
  clear hck h1 h HG HKK
  have hbe := Ext_drew (Ext.refl ((w.alloc (.cells #[.slice A ds.length c] 26)).alloc (.cells #[.string r.nm, .int .i64 r.kind, .int .i64 r.size, .bool r.little, .slice Ab r.bytes.length cb, .slice An r.names.length cn, .slice At r.tags.length ct, .slice (some ⟨bk, ok, none⟩) r.kids.length ck] 35)))
  go_enter Try.func51, Try.ntmps51
  go_wp2_with fail
  refine wp_region_quiet_below (by kernel_rfl) (by kernel_rfl) ?_
  repeat (go_big_quiet_step ((first | (go_at_call 60; exact Calls.regrown_of (CP.out _)) | (go_at_call 61; exact Calls.regrown_of (CL.out _ (hd.ext (eb.trans (by first | assumption | exact Ext_self _ | exact Ext_drew (Ext_self _) | exact Ext_regrown _ _ (Ext_self _)))))))))
  refine wpQuiet_nil ?_
  rintro w1 ⟨⟨nq, osq⟩, hq⟩
  have ew1 := ext_of_q hq
  clear hq nq osq
  go_wp2
  go_ret
  exact ⟨ret_bool (by simp), eb.trans ew1⟩
theorem seq_eq {ds : List DRule} {r : DRule} (hk : r.kind = 6) : kindOk ds r = (plainB r false false true false (r.names.length : Int) && namesB r.names) := by
  have h1 : kindOk ds r = seqOk r := by simp [kindOk, hk]
  rw [h1]
  unfold seqOk namesB plainB
  simp only [Bool.false_or, Bool.true_or, Bool.and_true]
  by_cases hl : r.kids.length = r.names.length
  · simp [hl, Bool.and_assoc]
  · have e1 : decide ((r.kids.length : Int) = (r.names.length : Int)) = false := by simp; omega
    have e2 : decide ((r.names.length : Int) < 0) = false := by simp
    have e3 : (r.kids.length == r.names.length) = false := by simpa using hl
    rw [e1, e2, e3]; simp
set_option maxRecDepth 100000 in
set_option maxHeartbeats 4000000 in
theorem sKind6_c (A : Option Addr) (ds : List DRule) (c : Nat) (r : DRule) (Ab : Option Addr) (cb : Nat) (An : Option Addr) (cn : Nat) (At : Option Addr) (ct : Nat) (Ak : Option Addr) (ck : Nat) (w : World) (hd : RdD w A ds c) (h : RdS w r Ab cb An cn At ct Ak ck) (hs : ShortR r) (hw : WfR r) (hk : r.kind = 6) :
    Gives Try.prog 51 #[vdesc (.slice A ds.length c), vrule r (.slice Ab r.bytes.length cb) (.slice An r.names.length cn) (.slice At r.tags.length ct) (.slice Ak r.kids.length ck)] w (.bool ((!r.little || r.kind == 1) && kindOk ds r)) := by
  have eb := Ext_alloc (.cells #[.string r.nm, .int .i64 r.kind, .int .i64 r.size, .bool r.little, .slice Ab r.bytes.length cb, .slice An r.names.length cn, .slice At r.tags.length ct, .slice Ak r.kids.length ck] 35) (Ext_alloc (.cells #[.slice A ds.length c] 26) (Ext.refl w))
  have BX := fun w' (e : Ext ((w.alloc (.cells #[.slice A ds.length c] 26)).alloc (.cells #[.string r.nm, .int .i64 r.kind, .int .i64 r.size, .bool r.little, .slice Ab r.bytes.length cb, .slice An r.names.length cn, .slice At r.tags.length ct, .slice Ak r.kids.length ck] 35)) w') => boxed2 e
  have B0 := fun w' e => (BX w' e).1
  have B1 := fun w' e => (BX w' e).2.1
  clear BX
  have t1 : (r.kind == 1) = false := by rw [hk]; rfl
  have t2 : (r.kind == 2) = false := by rw [hk]; rfl
  have t3 : (r.kind == 3) = false := by rw [hk]; rfl
  have t4 : (r.kind == 4) = false := by rw [hk]; rfl
  have t5 : (r.kind == 5) = false := by rw [hk]; rfl
  have t6 : (r.kind == 6) = true := by rw [hk]; rfl
  have t7 : (r.kind == 7) = false := by rw [hk]; rfl
  have t8 : (r.kind == 8) = false := by rw [hk]; rfl
  have t9 : (r.kind == 9) = false := by rw [hk]; rfl
  have t10 : (r.kind == 10) = false := by rw [hk]; rfl
  have HV : Hid (((!r.little || r.kind == 1) && kindOk ds r) = ((plainB r false false true false (r.names.length : Int) && (!r.little || r.kind == 1)) && namesB r.names)) := by show _ = _; rw [seq_eq hk]; cases (!r.little || r.kind == 1) <;> simp
  rw [HV.out]
  have CP := Lib.hid (fun w => sShape0010_c r Ab cb An cn At ct Ak ck (r.names.length : Int) w h.lens)
  generalize (plainB r false false true false (r.names.length : Int) && (!r.little || r.kind == 1)) = p at *
  clear HV hk
  have CN := Lib.hid (fun w h => sNames_c An r.names cn w h hw.names)
  generalize namesB r.names = q at *
  have hln := h.n.len
  unfold vrule vdesc at *
  cases p
  · go_enter Try.func51, Try.ntmps51
    go_wp2_with fail
    refine (CP.out _).mono ?_; rintro _ w1 ⟨rfl, he1⟩
    go_wp2
    go_ret
    exact ⟨ret_bool (by simp), eb.trans he1⟩
  go_enter Try.func51, Try.ntmps51
  go_wp2_with fail
  refine (CP.out _).mono ?_; rintro _ w1 ⟨rfl, he1⟩
  go_wp2_with fail
  refine (CN.out _ (h.n.ext (eb.trans he1))).mono ?_; rintro _ w2 ⟨rfl, he2⟩
  go_wp2
  go_ret
  exact ⟨ret_bool (by simp), eb.trans (he1.trans he2)⟩
theorem cho_eq {ds : List DRule} {r : DRule} (hk : r.kind = 7) : kindOk ds r = (plainB r false false false true (-1) && tagsB ds r) := by
  have h1 : kindOk ds r = choOk ds r := by simp [kindOk, hk]
  rw [h1]
  unfold choOk tagsB plainB
  simp only [Bool.false_or, Bool.true_or, Bool.and_true]
  have e2 : decide ((r.tags.length : Int) + 1 < 0) = false := by simp; omega
  by_cases hl : r.kids.length = r.tags.length + 1
  · have e1 : decide ((r.kids.length : Int) = (r.tags.length : Int) + 1) = true := by simp; omega
    have e3 : (r.kids.length == r.tags.length + 1) = true := by simpa using hl
    rw [e1, e2, e3]; simp [Bool.and_assoc]
  · have e1 : decide ((r.kids.length : Int) = (r.tags.length : Int) + 1) = false := by simp; omega
    have e3 : (r.kids.length == r.tags.length + 1) = false := by simpa using hl
    rw [e1, e2, e3]; simp
set_option maxRecDepth 100000 in
set_option maxHeartbeats 4000000 in
theorem sKind7_c (A : Option Addr) (ds : List DRule) (c : Nat) (r : DRule) (Ab : Option Addr) (cb : Nat) (An : Option Addr) (cn : Nat) (At : Option Addr) (ct : Nat) (Ak : Option Addr) (ck : Nat) (w : World) (hd : RdD w A ds c) (h : RdS w r Ab cb An cn At ct Ak ck) (hs : ShortR r) (hw : WfR r) (hk : r.kind = 7) :
    Gives Try.prog 51 #[vdesc (.slice A ds.length c), vrule r (.slice Ab r.bytes.length cb) (.slice An r.names.length cn) (.slice At r.tags.length ct) (.slice Ak r.kids.length ck)] w (.bool ((!r.little || r.kind == 1) && kindOk ds r)) := by
  have eb := Ext_alloc (.cells #[.string r.nm, .int .i64 r.kind, .int .i64 r.size, .bool r.little, .slice Ab r.bytes.length cb, .slice An r.names.length cn, .slice At r.tags.length ct, .slice Ak r.kids.length ck] 35) (Ext_alloc (.cells #[.slice A ds.length c] 26) (Ext.refl w))
  have BX := fun w' (e : Ext ((w.alloc (.cells #[.slice A ds.length c] 26)).alloc (.cells #[.string r.nm, .int .i64 r.kind, .int .i64 r.size, .bool r.little, .slice Ab r.bytes.length cb, .slice An r.names.length cn, .slice At r.tags.length ct, .slice Ak r.kids.length ck] 35)) w') => boxed2 e
  have B0 := fun w' e => (BX w' e).1
  have B1 := fun w' e => (BX w' e).2.1
  clear BX
  have t1 : (r.kind == 1) = false := by rw [hk]; rfl
  have t2 : (r.kind == 2) = false := by rw [hk]; rfl
  have t3 : (r.kind == 3) = false := by rw [hk]; rfl
  have t4 : (r.kind == 4) = false := by rw [hk]; rfl
  have t5 : (r.kind == 5) = false := by rw [hk]; rfl
  have t6 : (r.kind == 6) = false := by rw [hk]; rfl
  have t7 : (r.kind == 7) = true := by rw [hk]; rfl
  have t8 : (r.kind == 8) = false := by rw [hk]; rfl
  have t9 : (r.kind == 9) = false := by rw [hk]; rfl
  have t10 : (r.kind == 10) = false := by rw [hk]; rfl
  have HV : Hid (((!r.little || r.kind == 1) && kindOk ds r) = ((plainB r false false false true (-1) && (!r.little || r.kind == 1)) && tagsB ds r)) := by show _ = _; rw [cho_eq hk]; cases (!r.little || r.kind == 1) <;> simp
  rw [HV.out]
  have CP := Lib.hid (fun w => sShape0001_c r Ab cb An cn At ct Ak ck (-1) w h.lens)
  generalize (plainB r false false false true (-1) && (!r.little || r.kind == 1)) = p at *
  clear HV hk
  have CN := Lib.hid (fun w hd h => sTags_c A ds c r Ab cb An cn At ct Ak ck w hd h hs)
  generalize tagsB ds r = q at *
  have hln := h.n.len
  unfold vrule vdesc at *
  cases p
  · go_enter Try.func51, Try.ntmps51
    go_wp2_with fail
    refine (CP.out _).mono ?_; rintro _ w1 ⟨rfl, he1⟩
    go_wp2
    go_ret
    exact ⟨ret_bool (by simp), eb.trans he1⟩
  go_enter Try.func51, Try.ntmps51
  go_wp2_with fail
  refine (CP.out _).mono ?_; rintro _ w1 ⟨rfl, he1⟩
  go_wp2_with fail
  refine (CN.out _ (hd.ext (eb.trans he1)) (h.ext (eb.trans he1))).mono ?_; rintro _ w2 ⟨rfl, he2⟩
  go_wp2
  go_ret
  exact ⟨ret_bool (by simp), eb.trans (he1.trans he2)⟩
set_option maxRecDepth 100000 in
set_option maxHeartbeats 4000000 in
theorem sKind8_c (A : Option Addr) (ds : List DRule) (c : Nat) (r : DRule) (Ab : Option Addr) (cb : Nat) (An : Option Addr) (cn : Nat) (At : Option Addr) (ct : Nat) (Ak : Option Addr) (ck : Nat) (w : World) (hd : RdD w A ds c) (h : RdS w r Ab cb An cn At ct Ak ck) (hs : ShortR r) (hw : WfR r) (hk : r.kind = 8) :
    Gives Try.prog 51 #[vdesc (.slice A ds.length c), vrule r (.slice Ab r.bytes.length cb) (.slice An r.names.length cn) (.slice At r.tags.length ct) (.slice Ak r.kids.length ck)] w (.bool ((!r.little || r.kind == 1) && kindOk ds r)) := by
  have eb := Ext_alloc (.cells #[.string r.nm, .int .i64 r.kind, .int .i64 r.size, .bool r.little, .slice Ab r.bytes.length cb, .slice An r.names.length cn, .slice At r.tags.length ct, .slice Ak r.kids.length ck] 35) (Ext_alloc (.cells #[.slice A ds.length c] 26) (Ext.refl w))
  have BX := fun w' (e : Ext ((w.alloc (.cells #[.slice A ds.length c] 26)).alloc (.cells #[.string r.nm, .int .i64 r.kind, .int .i64 r.size, .bool r.little, .slice Ab r.bytes.length cb, .slice An r.names.length cn, .slice At r.tags.length ct, .slice Ak r.kids.length ck] 35)) w') => boxed2 e
  have B0 := fun w' e => (BX w' e).1
  have B1 := fun w' e => (BX w' e).2.1
  clear BX
  have t1 : (r.kind == 1) = false := by rw [hk]; rfl
  have t2 : (r.kind == 2) = false := by rw [hk]; rfl
  have t3 : (r.kind == 3) = false := by rw [hk]; rfl
  have t4 : (r.kind == 4) = false := by rw [hk]; rfl
  have t5 : (r.kind == 5) = false := by rw [hk]; rfl
  have t6 : (r.kind == 6) = false := by rw [hk]; rfl
  have t7 : (r.kind == 7) = false := by rw [hk]; rfl
  have t8 : (r.kind == 8) = true := by rw [hk]; rfl
  have t9 : (r.kind == 9) = false := by rw [hk]; rfl
  have t10 : (r.kind == 10) = false := by rw [hk]; rfl
  have HV : Hid (((!r.little || r.kind == 1) && kindOk ds r) = (plainB r false false false false 1 && (!r.little || r.kind == 1))) := by show _ = _; simp [kindOk, hk]; rw [Bool.and_comm]
  rw [HV.out]
  have CP := Lib.hid (fun w => sShape0000_c r Ab cb An cn At ct Ak ck 1 w h.lens)
  generalize (plainB r false false false false 1 && (!r.little || r.kind == 1)) = p at *
  clear HV hk
  unfold vrule vdesc at *
  go_enter Try.func51, Try.ntmps51
  go_wp2_with fail
  refine (CP.out _).mono ?_; rintro _ w1 ⟨rfl, he1⟩
  go_wp2
  go_ret
  exact ⟨rfl, eb.trans he1⟩
set_option maxRecDepth 100000 in
set_option maxHeartbeats 4000000 in
theorem sKind9_c (A : Option Addr) (ds : List DRule) (c : Nat) (r : DRule) (Ab : Option Addr) (cb : Nat) (An : Option Addr) (cn : Nat) (At : Option Addr) (ct : Nat) (Ak : Option Addr) (ck : Nat) (w : World) (hd : RdD w A ds c) (h : RdS w r Ab cb An cn At ct Ak ck) (hs : ShortR r) (hw : WfR r) (hk : r.kind = 9) :
    Gives Try.prog 51 #[vdesc (.slice A ds.length c), vrule r (.slice Ab r.bytes.length cb) (.slice An r.names.length cn) (.slice At r.tags.length ct) (.slice Ak r.kids.length ck)] w (.bool ((!r.little || r.kind == 1) && kindOk ds r)) := by
  have eb := Ext_alloc (.cells #[.string r.nm, .int .i64 r.kind, .int .i64 r.size, .bool r.little, .slice Ab r.bytes.length cb, .slice An r.names.length cn, .slice At r.tags.length ct, .slice Ak r.kids.length ck] 35) (Ext_alloc (.cells #[.slice A ds.length c] 26) (Ext.refl w))
  have BX := fun w' (e : Ext ((w.alloc (.cells #[.slice A ds.length c] 26)).alloc (.cells #[.string r.nm, .int .i64 r.kind, .int .i64 r.size, .bool r.little, .slice Ab r.bytes.length cb, .slice An r.names.length cn, .slice At r.tags.length ct, .slice Ak r.kids.length ck] 35)) w') => boxed2 e
  have B0 := fun w' e => (BX w' e).1
  have B1 := fun w' e => (BX w' e).2.1
  clear BX
  have t1 : (r.kind == 1) = false := by rw [hk]; rfl
  have t2 : (r.kind == 2) = false := by rw [hk]; rfl
  have t3 : (r.kind == 3) = false := by rw [hk]; rfl
  have t4 : (r.kind == 4) = false := by rw [hk]; rfl
  have t5 : (r.kind == 5) = false := by rw [hk]; rfl
  have t6 : (r.kind == 6) = false := by rw [hk]; rfl
  have t7 : (r.kind == 7) = false := by rw [hk]; rfl
  have t8 : (r.kind == 8) = false := by rw [hk]; rfl
  have t9 : (r.kind == 9) = true := by rw [hk]; rfl
  have t10 : (r.kind == 10) = false := by rw [hk]; rfl
  have HV : Hid (((!r.little || r.kind == 1) && kindOk ds r) = (plainB r false false false false 1 && (!r.little || r.kind == 1))) := by show _ = _; simp [kindOk, hk]; rw [Bool.and_comm]
  rw [HV.out]
  have CP := Lib.hid (fun w => sShape0000_c r Ab cb An cn At ct Ak ck 1 w h.lens)
  generalize (plainB r false false false false 1 && (!r.little || r.kind == 1)) = p at *
  clear HV hk
  unfold vrule vdesc at *
  go_enter Try.func51, Try.ntmps51
  go_wp2_with fail
  refine (CP.out _).mono ?_; rintro _ w1 ⟨rfl, he1⟩
  go_wp2
  go_ret
  exact ⟨rfl, eb.trans he1⟩
set_option maxRecDepth 100000 in
set_option maxHeartbeats 4000000 in
theorem sKind10_c (A : Option Addr) (ds : List DRule) (c : Nat) (r : DRule) (Ab : Option Addr) (cb : Nat) (An : Option Addr) (cn : Nat) (At : Option Addr) (ct : Nat) (Ak : Option Addr) (ck : Nat) (w : World) (hd : RdD w A ds c) (h : RdS w r Ab cb An cn At ct Ak ck) (hs : ShortR r) (hw : WfR r) (hk : r.kind = 10) :
    Gives Try.prog 51 #[vdesc (.slice A ds.length c), vrule r (.slice Ab r.bytes.length cb) (.slice An r.names.length cn) (.slice At r.tags.length ct) (.slice Ak r.kids.length ck)] w (.bool ((!r.little || r.kind == 1) && kindOk ds r)) := by
  have eb := Ext_alloc (.cells #[.string r.nm, .int .i64 r.kind, .int .i64 r.size, .bool r.little, .slice Ab r.bytes.length cb, .slice An r.names.length cn, .slice At r.tags.length ct, .slice Ak r.kids.length ck] 35) (Ext_alloc (.cells #[.slice A ds.length c] 26) (Ext.refl w))
  have BX := fun w' (e : Ext ((w.alloc (.cells #[.slice A ds.length c] 26)).alloc (.cells #[.string r.nm, .int .i64 r.kind, .int .i64 r.size, .bool r.little, .slice Ab r.bytes.length cb, .slice An r.names.length cn, .slice At r.tags.length ct, .slice Ak r.kids.length ck] 35)) w') => boxed2 e
  have B0 := fun w' e => (BX w' e).1
  have B1 := fun w' e => (BX w' e).2.1
  clear BX
  have t1 : (r.kind == 1) = false := by rw [hk]; rfl
  have t2 : (r.kind == 2) = false := by rw [hk]; rfl
  have t3 : (r.kind == 3) = false := by rw [hk]; rfl
  have t4 : (r.kind == 4) = false := by rw [hk]; rfl
  have t5 : (r.kind == 5) = false := by rw [hk]; rfl
  have t6 : (r.kind == 6) = false := by rw [hk]; rfl
  have t7 : (r.kind == 7) = false := by rw [hk]; rfl
  have t8 : (r.kind == 8) = false := by rw [hk]; rfl
  have t9 : (r.kind == 9) = false := by rw [hk]; rfl
  have t10 : (r.kind == 10) = true := by rw [hk]; rfl
  have HV : Hid (((!r.little || r.kind == 1) && kindOk ds r) = ((plainB r false true false false 0 && (!r.little || r.kind == 1)) && (r.bytes.length == 1 && !(r.bytes.getD 0 0 == 92)))) := by
    have : kindOk ds r = (plainB r false true false false 0 && (r.bytes.length == 1 && !(r.bytes.getD 0 0 == 92))) := by simp [kindOk, hk, Bool.and_assoc]
    show _ = _; rw [this]; cases (!r.little || r.kind == 1) <;> simp
  rw [HV.out]
  have CP := Lib.hid (fun w => sShape0100_c r Ab cb An cn At ct Ak ck 0 w h.lens)
  generalize (plainB r false true false false 0 && (!r.little || r.kind == 1)) = p at *
  clear HV hk
  have h1 := h.b
  have hlb := h1.len
  unfold vrule vdesc at *
  cases p
  · go_enter Try.func51, Try.ntmps51
    go_wp2_with fail
    refine (CP.out _).mono ?_; rintro _ w1 ⟨rfl, he1⟩
    go_wp2
    go_ret
    exact ⟨ret_bool (by simp), eb.trans he1⟩
  by_cases hl : r.bytes.length = 1
  · have hk0 : 0 < r.bytes.length := by omega
    obtain ⟨bb, ob, rfl, hbb, hcb⟩ := h1.at 0 hk0
    have HG : Hid (r.bytes.getD 0 0 = r.bytes[0]) := by show _ = _; simp [List.getD_eq_getElem?_getD, List.getElem?_eq_getElem hk0]
    rw [HG.out]
    rw [Nat.add_zero] at hcb
    generalize r.bytes[0] = x at *
    have hck' := fun w' (e : Ext _ w') => hcb w' (eb.trans e)
    have l1 : ((r.bytes.length : Int) == 1) = true := by simp [hl]
    have HL : Hid ((r.bytes.length == 1) = true) := by show _ = _; simp [hl]
    rw [HL.out]
    have HX : Hid ((!(x == 92)) = ((x.toNat : Int) != 92)) := by
      show _ = _
      rw [bne]; congr 1
      rw [Bool.eq_iff_iff]; simp only [beq_iff_eq]
      constructor
      · rintro rfl; rfl
      · intro hx; exact u8_inj (by simpa using hx)
    rw [HX.out]
    clear hcb h1 h HG hl HL HX
    go_enter Try.func51, Try.ntmps51
    go_wp2_with fail
    refine (CP.out _).mono ?_; rintro _ w1 ⟨rfl, he1⟩
    go_wp2
    go_ret
    exact ⟨ret_bool (by simp), eb.trans he1⟩
  · have l1 : ((r.bytes.length : Int) == 1) = false := by simp; omega
    have HL : Hid ((r.bytes.length == 1) = false) := by show _ = _; simpa using hl
    rw [HL.out]
    clear hl HL
    go_enter Try.func51, Try.ntmps51
    go_wp2_with fail
    refine (CP.out _).mono ?_; rintro _ w1 ⟨rfl, he1⟩
    go_wp2
    go_ret
    exact ⟨ret_bool (by simp), eb.trans he1⟩
set_option maxRecDepth 100000 in
set_option maxHeartbeats 4000000 in
theorem sKindX_c (A : Option Addr) (ds : List DRule) (c : Nat) (r : DRule) (Ab : Option Addr) (cb : Nat) (An : Option Addr) (cn : Nat) (At : Option Addr) (ct : Nat) (Ak : Option Addr) (ck : Nat) (w : World) (hd : RdD w A ds c) (h : RdS w r Ab cb An cn At ct Ak ck) (hs : ShortR r) (hw : WfR r) (hk : r.kind < 1 ∨ 10 < r.kind) :
    Gives Try.prog 51 #[vdesc (.slice A ds.length c), vrule r (.slice Ab r.bytes.length cb) (.slice An r.names.length cn) (.slice At r.tags.length ct) (.slice Ak r.kids.length ck)] w (.bool ((!r.little || r.kind == 1) && kindOk ds r)) := by
  have eb := Ext_alloc (.cells #[.string r.nm, .int .i64 r.kind, .int .i64 r.size, .bool r.little, .slice Ab r.bytes.length cb, .slice An r.names.length cn, .slice At r.tags.length ct, .slice Ak r.kids.length ck] 35) (Ext_alloc (.cells #[.slice A ds.length c] 26) (Ext.refl w))
  have BX := fun w' (e : Ext ((w.alloc (.cells #[.slice A ds.length c] 26)).alloc (.cells #[.string r.nm, .int .i64 r.kind, .int .i64 r.size, .bool r.little, .slice Ab r.bytes.length cb, .slice An r.names.length cn, .slice At r.tags.length ct, .slice Ak r.kids.length ck] 35)) w') => boxed2 e
  have B0 := fun w' e => (BX w' e).1
  have B1 := fun w' e => (BX w' e).2.1
  clear BX
  have t1 : (r.kind == 1) = false := by simp; omega
  have t2 : (r.kind == 2) = false := by simp; omega
  have t3 : (r.kind == 3) = false := by simp; omega
  have t4 : (r.kind == 4) = false := by simp; omega
  have t5 : (r.kind == 5) = false := by simp; omega
  have t6 : (r.kind == 6) = false := by simp; omega
  have t7 : (r.kind == 7) = false := by simp; omega
  have t8 : (r.kind == 8) = false := by simp; omega
  have t9 : (r.kind == 9) = false := by simp; omega
  have t10 : (r.kind == 10) = false := by simp; omega
  have HV : Hid (((!r.little || r.kind == 1) && kindOk ds r) = false) := by
    show _ = _; unfold kindOk
    rw [if_neg (by omega), if_neg (by omega), if_neg (by omega), if_neg (by omega), if_neg (by omega), if_neg (by omega), if_neg (by omega), if_neg (by omega), if_neg (by omega), if_neg (by omega)]; simp
  rw [HV.out]
  clear HV hk
  unfold vrule vdesc at *
  go_enter Try.func51, Try.ntmps51
  go_wp2
  go_ret
  exact ⟨rfl, eb⟩
end Go.Proofs.Ytophjmphjdhjoaa

/- Kinds of rules, all together; a valid rule. -/
namespace Go.Proofs.Ytophjmphjdhjoaa
open Go.RowKit Go.Sort

theorem iKind_c (A : Option Addr) (ds : List DRule) (c : Nat) (r : DRule) (Ab : Option Addr) (cb : Nat) (An : Option Addr) (cn : Nat) (At : Option Addr) (ct : Nat) (Ak : Option Addr) (ck : Nat) (w : World) (hd : RdD w A ds c) (h : RdS w r Ab cb An cn At ct Ak ck) (hs : ShortR r) (hw : WfR r) :
    Gives Try.prog 59 #[vdesc (.slice A ds.length c), vrule r (.slice Ab r.bytes.length cb) (.slice An r.names.length cn) (.slice At r.tags.length ct) (.slice Ak r.kids.length ck)] w (.bool (kindOk ds r)) := by
  rcases (by omega : r.kind = 1 ∨ r.kind = 2 ∨ r.kind = 3 ∨ r.kind = 4 ∨ r.kind = 5 ∨ r.kind = 6 ∨ r.kind = 7 ∨ r.kind = 8 ∨ r.kind = 9 ∨ r.kind = 10 ∨ (r.kind < 1 ∨ 10 < r.kind)) with hk | hk | hk | hk | hk | hk | hk | hk | hk | hk | hk
  · exact iKind1_c A ds c r Ab cb An cn At ct Ak ck w hd h hs hw hk
  · exact iKind2_c A ds c r Ab cb An cn At ct Ak ck w hd h hs hw hk
  · exact iKind3_c A ds c r Ab cb An cn At ct Ak ck w hd h hs hw hk
  · exact iKind4_c A ds c r Ab cb An cn At ct Ak ck w hd h hs hw hk
  · exact iKind5_c A ds c r Ab cb An cn At ct Ak ck w hd h hs hw hk
  · exact iKind6_c A ds c r Ab cb An cn At ct Ak ck w hd h hs hw hk
  · exact iKind7_c A ds c r Ab cb An cn At ct Ak ck w hd h hs hw hk
  · exact iKind8_c A ds c r Ab cb An cn At ct Ak ck w hd h hs hw hk
  · exact iKind9_c A ds c r Ab cb An cn At ct Ak ck w hd h hs hw hk
  · exact iKind10_c A ds c r Ab cb An cn At ct Ak ck w hd h hs hw hk
  · exact iKindX_c A ds c r Ab cb An cn At ct Ak ck w hd h hs hw hk
theorem sKind_c (A : Option Addr) (ds : List DRule) (c : Nat) (r : DRule) (Ab : Option Addr) (cb : Nat) (An : Option Addr) (cn : Nat) (At : Option Addr) (ct : Nat) (Ak : Option Addr) (ck : Nat) (w : World) (hd : RdD w A ds c) (h : RdS w r Ab cb An cn At ct Ak ck) (hs : ShortR r) (hw : WfR r) :
    Gives Try.prog 51 #[vdesc (.slice A ds.length c), vrule r (.slice Ab r.bytes.length cb) (.slice An r.names.length cn) (.slice At r.tags.length ct) (.slice Ak r.kids.length ck)] w (.bool ((!r.little || r.kind == 1) && kindOk ds r)) := by
  rcases (by omega : r.kind = 1 ∨ r.kind = 2 ∨ r.kind = 3 ∨ r.kind = 4 ∨ r.kind = 5 ∨ r.kind = 6 ∨ r.kind = 7 ∨ r.kind = 8 ∨ r.kind = 9 ∨ r.kind = 10 ∨ (r.kind < 1 ∨ 10 < r.kind)) with hk | hk | hk | hk | hk | hk | hk | hk | hk | hk | hk
  · exact sKind1_c A ds c r Ab cb An cn At ct Ak ck w hd h hs hw hk
  · exact sKind2_c A ds c r Ab cb An cn At ct Ak ck w hd h hs hw hk
  · exact sKind3_c A ds c r Ab cb An cn At ct Ak ck w hd h hs hw hk
  · exact sKind4_c A ds c r Ab cb An cn At ct Ak ck w hd h hs hw hk
  · exact sKind5_c A ds c r Ab cb An cn At ct Ak ck w hd h hs hw hk
  · exact sKind6_c A ds c r Ab cb An cn At ct Ak ck w hd h hs hw hk
  · exact sKind7_c A ds c r Ab cb An cn At ct Ak ck w hd h hs hw hk
  · exact sKind8_c A ds c r Ab cb An cn At ct Ak ck w hd h hs hw hk
  · exact sKind9_c A ds c r Ab cb An cn At ct Ak ck w hd h hs hw hk
  · exact sKind10_c A ds c r Ab cb An cn At ct Ak ck w hd h hs hw hk
  · exact sKindX_c A ds c r Ab cb An cn At ct Ak ck w hd h hs hw hk
theorem freshNm_at {ds : List DRule} {r : DRule} {j : Nat} (h : j < ds.length) : freshNm ds r j = !(ds[j].nm.toList == r.nm.toList) := by unfold freshNm; rw [List.getElem?_eq_getElem h]
theorem kidOk_at {l : List Int} {i j : Nat} (h : j < l.length) : kidOk l i j = between l[j] 0 ((i : Int) - 1) := by unfold kidOk; rw [List.getElem?_eq_getElem h]
theorem ruleOk_at {ds : List DRule} {i : Nat} (h : i < ds.length) : ruleOk ds i = (isName ds[i].nm && (!ds[i].little || ds[i].kind == 1) && allN i (freshNm ds ds[i]) && allN ds[i].kids.length (kidOk ds[i].kids i) && kindOk ds ds[i]) := by unfold ruleOk; rw [List.getElem?_eq_getElem h]
end Go.Proofs.Ytophjmphjdhjoaa

/- Valid rules, descriptions and registries. -/
namespace Go.Proofs.Ytophjmphjdhjoaa
open Go.RowKit Go.Sort

set_option maxRecDepth 100000 in
set_option maxHeartbeats 8000000 in
theorem iRule_c (A : Option Addr) (ds : List DRule) (c : Nat) (i : Nat) (w : World) (hd : RdD w A ds c) (hi : i < ds.length) (hs : ShortD ds) (hw : WfD ds) :
    Gives Try.prog 45 #[vdesc (.slice A ds.length c), .int .i64 i] w (.bool (ruleOk ds i)) := by
  have hl := hd.len
  have hcap := hd.cap
  have eb := Ext_alloc (.cells #[.slice A ds.length c] 26) (Ext.refl w)
  have BX := fun w' (e : Ext (w.alloc (.cells #[.slice A ds.length c] 26)) w') => boxed e
  rw [ruleOk_at hi]
  obtain ⟨b, off, hA, hb, hall⟩ := hd.cells (by omega)
  have HALL := Lib.hid hall
  obtain ⟨Ab, cb, An, cn, At, ct, Ak, ck, hS, hRA⟩ := hall i hi
  clear hall
  have hsr := hs _ (List.getElem_mem hi); have hwr := hw _ (List.getElem_mem hi)
  have HF : Hid (∀ j (h : j < ds.length), freshNm ds ds[i] j = !(ds[j].nm.toList == ds[i].nm.toList)) := fun j h => freshNm_at h
  generalize ds[i] = r at *
  have HKO : Hid (∀ j (h : j < r.kids.length), kidOk r.kids i j = between r.kids[j] 0 ((i : Int) - 1)) := fun j h => kidOk_at h
  have CK := Lib.hid (fun w h h' => iKind_c A ds c r Ab cb An cn At ct Ak ck w h h' hsr hwr)
  have CN := Lib.hid (fun w => iIsName_c r.nm w hwr.nm)
  have HS := Lib.hid hS
  have hK := hS.k
  have hKl := hK.len
  generalize kindOk ds r = KO at *
  generalize isName r.nm = NM at *
  generalize freshNm ds r = FR at *
  have HSX : Hid (∀ w', Ext w w' → RdS w' r Ab cb An cn At ct Ak ck) := fun w' e => HS.out.ext e
  clear hS hsr hwr HS
  unfold vrule vdesc at *
  have CK' := Lib.hid (fun w' (e : Ext w w') => CK.out w' (hd.ext e) (HSX.out w' e))
  clear CK HSX
  replace hRA := hRA.ext eb
  obtain ⟨nm, kind, size, little, bytes, names, tags, kids⟩ := r
  obtain ⟨k0, k1, k2, k3, k4, k5, k6, k7⟩ := hRA
  dsimp only at *
  have hi1 : (i : Int) < (ds.length : Int) := by omega
  have hi0 : (0 : Int) ≤ (i : Int) := by omega
  have hic : (i : Int) ≤ (c : Int) := by omega
  have CI := Lib.hid (fun w => hasRule_c A ds.length c (i : Int) w hl)
  have HI : Hid ((decide ((0 : Int) ≤ (i : Int)) && decide ((i : Int) < (ds.length : Int))) = true) := by show _ = _; simp; omega
  rw [HI.out] at CI
  unfold vdesc at CI
  clear HI hd
  subst hA
  obtain ⟨kq, hkq⟩ : ∃ kq, (kind == 1) = kq := ⟨_, rfl⟩
  have hkn : (kind != 1) = !kq := by rw [bne, hkq]
  rw [hkq]
  cases NM
  · clear hkq hkn
    go_enter Try.func45, Try.ntmps45
    go_wp2_with fail
    refine (CI.out _).mono ?_; rintro _ w1 ⟨rfl, s1⟩
    have x1 := Ext_alloc (.cells #[.string nm, .int .i64 kind, .int .i64 size, .bool little, .slice Ab bytes.length cb, .slice An names.length cn, .slice At tags.length ct, .slice Ak kids.length ck] 35) (Ext.refl w1)
    have BR := fun w' (e : Ext (w1.alloc (.cells #[.string nm, .int .i64 kind, .int .i64 size, .bool little, .slice Ab bytes.length cb, .slice An names.length cn, .slice At tags.length ct, .slice Ak kids.length ck] 35)) w') => boxed e
    have e1 := s1.trans x1
    have eb1 := eb.trans e1
    go_wp2_with fail
    refine (CN.out _).mono ?_; rintro _ w2 ⟨rfl, s2⟩
    go_wp2
    go_ret
    exact ⟨ret_bool (by simp), eb1.trans s2⟩
  cases little
  · clear hkq hkn
    go_enter Try.func45, Try.ntmps45
    go_wp2_with fail
    refine (CI.out _).mono ?_; rintro _ w1 ⟨rfl, s1⟩
    have x1 := Ext_alloc (.cells #[.string nm, .int .i64 kind, .int .i64 size, .bool false, .slice Ab bytes.length cb, .slice An names.length cn, .slice At tags.length ct, .slice Ak kids.length ck] 35) (Ext.refl w1)
    have BR := fun w' (e : Ext (w1.alloc (.cells #[.string nm, .int .i64 kind, .int .i64 size, .bool false, .slice Ab bytes.length cb, .slice An names.length cn, .slice At tags.length ct, .slice Ak kids.length ck] 35)) w') => boxed e
    have e1 := s1.trans x1
    have eb1 := eb.trans e1
    go_wp2_with fail
    refine (CN.out _).mono ?_; rintro _ w2 ⟨rfl, s2⟩
    have hx2 := e1.trans s2
    go_wp2
    go_loopw [37] (fun q wr => ∃ k : Nat, k ≤ i ∧ q = .int .i64 k ∧ Hid (∀ j, j < k → FR j = true) ∧ Ext (w1.alloc (.cells #[.string nm, .int .i64 kind, .int .i64 size, .bool false, .slice Ab bytes.length cb, .slice An names.length cn, .slice At tags.length ct, .slice Ak kids.length ck] 35)) wr) (fun q _ => i - (intOf q).toNat)
    case atStart => exact ⟨0, by omega, rfl, (fun j hj => by omega), s2⟩
    case round =>
      clear hx2 s2
      obtain ⟨k, hk, rfl, ht, he⟩ := hrel
      have hx := e1.trans he
      by_cases hlt : k < i
      · have hkd : k < ds.length := by omega
        obtain ⟨Ab2, cb2, An2, cn2, At2, ct2, Ak2, ck2, _, hR2⟩ := HALL.out k hkd
        have HN := Lib.hid (HF.out k hkd)
        have NO : Hid (FR k = false → allN i FR = false) := fun hf => allN_no hlt hf
        have YES : Hid (FR k = true → ∀ j, j < k + 1 → FR j = true) := upTo ht.out
        generalize ds[k] = p at *
        obtain ⟨m0, m1, m2, m3, m4, m5, m6, m7⟩ := hR2.ext eb
        clear hR2 ht
        have hk1 : (k : Int) < (ds.length : Int) := by omega
        cases hq : (p.nm.toList == nm.toList)
        · have HE := Lib.hid (YES.out (HN.out.trans (by rw [hq]; rfl))); clear NO YES HN
          go_wp2
          go_roundw
          case rel => exact ⟨k+1, by omega, by go_num, HE.out, Ext_alloc _ he⟩
          case measure => simp [intOf]; omega
        · have HE := Lib.hid (NO.out (HN.out.trans (by rw [hq]; rfl))); clear NO YES HN
          go_wp2
          go_ret
          exact ⟨ret_bool (by rw [HE.out]; simp), eb1.trans (Ext_alloc _ he)⟩
      · have HE1 : Hid (allN i FR = true) := allN_yes (fun j hj => ht.out j (by omega))
        obtain ⟨wo, rfl⟩ : ∃ wo : World, wo = wr := ⟨_, rfl⟩
        clear ht HALL HF
        go_wp2
        go_loopw [50] (fun q wr => ∃ k : Nat, k ≤ kids.length ∧ q = .int .i64 k ∧ Hid (∀ j, j < k → kidOk kids i j = true) ∧ Ext (w1.alloc (.cells #[.string nm, .int .i64 kind, .int .i64 size, .bool false, .slice Ab bytes.length cb, .slice An names.length cn, .slice At tags.length ct, .slice Ak kids.length ck] 35)) wr) (fun q _ => kids.length - (intOf q).toNat)
        case atStart => exact ⟨0, by omega, rfl, (fun j hj => by omega), he⟩
        case round =>
          clear he hx
          obtain ⟨k, hk, rfl, ht, he⟩ := hrel
          have hx := e1.trans he
          by_cases hlt : k < kids.length
          · have HN := Lib.hid (HKO.out k hlt)
            have NO : Hid (kidOk kids i k = false → allN kids.length (kidOk kids i) = false) := fun hf => allN_no hlt hf
            have YES : Hid (kidOk kids i k = true → ∀ j, j < k + 1 → kidOk kids i j = true) := upTo ht.out
            obtain ⟨b2, off2, rfl, hb2, hc2⟩ := hK.at k hlt
            have hc3 := fun w' (e : Ext _ w') => hc2 w' (eb.trans e)
            clear hc2 ht
            generalize kids[k] = kid at *
            cases q1 : decide (kid < 0)
            · cases q2 : decide ((i : Int) ≤ kid)
              · have HE := Lib.hid (YES.out (HN.out.trans (by unfold between; simp at q1 q2 ⊢; omega))); clear NO YES HN
                go_wp2
                go_roundw
                case rel => exact ⟨k+1, by omega, by go_num, HE.out, he⟩
                case measure => simp [intOf]; omega
              · have HE := Lib.hid (NO.out (HN.out.trans (by unfold between; simp at q1 q2 ⊢; omega))); clear NO YES HN
                go_wp2
                go_ret
                exact ⟨ret_bool (by rw [HE.out]; simp), eb1.trans he⟩
            · have HE := Lib.hid (NO.out (HN.out.trans (by unfold between; simp at q1 ⊢; omega))); clear NO YES HN
              go_wp2
              go_ret
              exact ⟨ret_bool (by rw [HE.out]; simp), eb1.trans he⟩
          · have HE2 : Hid (allN kids.length (kidOk kids i) = true) := allN_yes (fun j hj => ht.out j (by omega))
            go_wp2_with fail
            refine (CK'.out _ (eb1.trans he)).mono ?_; rintro _ w8 ⟨rfl, s8⟩
            go_wp2
            go_ret
            exact ⟨ret_bool (by rw [HE1.out, HE2.out]; simp), eb1.trans (he.trans s8)⟩

  cases kq
  · go_enter Try.func45, Try.ntmps45
    go_wp2_with fail
    refine (CI.out _).mono ?_; rintro _ w1 ⟨rfl, s1⟩
    have x1 := Ext_alloc (.cells #[.string nm, .int .i64 kind, .int .i64 size, .bool true, .slice Ab bytes.length cb, .slice An names.length cn, .slice At tags.length ct, .slice Ak kids.length ck] 35) (Ext.refl w1)
    have BR := fun w' (e : Ext (w1.alloc (.cells #[.string nm, .int .i64 kind, .int .i64 size, .bool true, .slice Ab bytes.length cb, .slice An names.length cn, .slice At tags.length ct, .slice Ak kids.length ck] 35)) w') => boxed e
    have e1 := s1.trans x1
    have eb1 := eb.trans e1
    go_wp2_with fail
    refine (CN.out _).mono ?_; rintro _ w2 ⟨rfl, s2⟩
    go_wp2
    go_ret
    exact ⟨ret_bool (by simp), eb1.trans s2⟩
  go_enter Try.func45, Try.ntmps45
  go_wp2_with fail
  refine (CI.out _).mono ?_; rintro _ w1 ⟨rfl, s1⟩
  have x1 := Ext_alloc (.cells #[.string nm, .int .i64 kind, .int .i64 size, .bool true, .slice Ab bytes.length cb, .slice An names.length cn, .slice At tags.length ct, .slice Ak kids.length ck] 35) (Ext.refl w1)
  have BR := fun w' (e : Ext (w1.alloc (.cells #[.string nm, .int .i64 kind, .int .i64 size, .bool true, .slice Ab bytes.length cb, .slice An names.length cn, .slice At tags.length ct, .slice Ak kids.length ck] 35)) w') => boxed e
  have e1 := s1.trans x1
  have eb1 := eb.trans e1
  go_wp2_with fail
  refine (CN.out _).mono ?_; rintro _ w2 ⟨rfl, s2⟩
  have hx2 := e1.trans s2
  go_wp2
  go_loopw [37] (fun q wr => ∃ k : Nat, k ≤ i ∧ q = .int .i64 k ∧ Hid (∀ j, j < k → FR j = true) ∧ Ext (w1.alloc (.cells #[.string nm, .int .i64 kind, .int .i64 size, .bool true, .slice Ab bytes.length cb, .slice An names.length cn, .slice At tags.length ct, .slice Ak kids.length ck] 35)) wr) (fun q _ => i - (intOf q).toNat)
  case atStart => exact ⟨0, by omega, rfl, (fun j hj => by omega), s2⟩
  case round =>
    clear hx2 s2
    obtain ⟨k, hk, rfl, ht, he⟩ := hrel
    have hx := e1.trans he
    by_cases hlt : k < i
    · have hkd : k < ds.length := by omega
      obtain ⟨Ab2, cb2, An2, cn2, At2, ct2, Ak2, ck2, _, hR2⟩ := HALL.out k hkd
      have HN := Lib.hid (HF.out k hkd)
      have NO : Hid (FR k = false → allN i FR = false) := fun hf => allN_no hlt hf
      have YES : Hid (FR k = true → ∀ j, j < k + 1 → FR j = true) := upTo ht.out
      generalize ds[k] = p at *
      obtain ⟨m0, m1, m2, m3, m4, m5, m6, m7⟩ := hR2.ext eb
      clear hR2 ht
      have hk1 : (k : Int) < (ds.length : Int) := by omega
      cases hq : (p.nm.toList == nm.toList)
      · have HE := Lib.hid (YES.out (HN.out.trans (by rw [hq]; rfl))); clear NO YES HN
        go_wp2
        go_roundw
        case rel => exact ⟨k+1, by omega, by go_num, HE.out, Ext_alloc _ he⟩
        case measure => simp [intOf]; omega
      · have HE := Lib.hid (NO.out (HN.out.trans (by rw [hq]; rfl))); clear NO YES HN
        go_wp2
        go_ret
        exact ⟨ret_bool (by rw [HE.out]; simp), eb1.trans (Ext_alloc _ he)⟩
    · have HE1 : Hid (allN i FR = true) := allN_yes (fun j hj => ht.out j (by omega))
      obtain ⟨wo, rfl⟩ : ∃ wo : World, wo = wr := ⟨_, rfl⟩
      clear ht HALL HF
      go_wp2
      go_loopw [50] (fun q wr => ∃ k : Nat, k ≤ kids.length ∧ q = .int .i64 k ∧ Hid (∀ j, j < k → kidOk kids i j = true) ∧ Ext (w1.alloc (.cells #[.string nm, .int .i64 kind, .int .i64 size, .bool true, .slice Ab bytes.length cb, .slice An names.length cn, .slice At tags.length ct, .slice Ak kids.length ck] 35)) wr) (fun q _ => kids.length - (intOf q).toNat)
      case atStart => exact ⟨0, by omega, rfl, (fun j hj => by omega), he⟩
      case round =>
        clear he hx
        obtain ⟨k, hk, rfl, ht, he⟩ := hrel
        have hx := e1.trans he
        by_cases hlt : k < kids.length
        · have HN := Lib.hid (HKO.out k hlt)
          have NO : Hid (kidOk kids i k = false → allN kids.length (kidOk kids i) = false) := fun hf => allN_no hlt hf
          have YES : Hid (kidOk kids i k = true → ∀ j, j < k + 1 → kidOk kids i j = true) := upTo ht.out
          obtain ⟨b2, off2, rfl, hb2, hc2⟩ := hK.at k hlt
          have hc3 := fun w' (e : Ext _ w') => hc2 w' (eb.trans e)
          clear hc2 ht
          generalize kids[k] = kid at *
          cases q1 : decide (kid < 0)
          · cases q2 : decide ((i : Int) ≤ kid)
            · have HE := Lib.hid (YES.out (HN.out.trans (by unfold between; simp at q1 q2 ⊢; omega))); clear NO YES HN
              go_wp2
              go_roundw
              case rel => exact ⟨k+1, by omega, by go_num, HE.out, he⟩
              case measure => simp [intOf]; omega
            · have HE := Lib.hid (NO.out (HN.out.trans (by unfold between; simp at q1 q2 ⊢; omega))); clear NO YES HN
              go_wp2
              go_ret
              exact ⟨ret_bool (by rw [HE.out]; simp), eb1.trans he⟩
          · have HE := Lib.hid (NO.out (HN.out.trans (by unfold between; simp at q1 ⊢; omega))); clear NO YES HN
            go_wp2
            go_ret
            exact ⟨ret_bool (by rw [HE.out]; simp), eb1.trans he⟩
        · have HE2 : Hid (allN kids.length (kidOk kids i) = true) := allN_yes (fun j hj => ht.out j (by omega))
          go_wp2_with fail
          refine (CK'.out _ (eb1.trans he)).mono ?_; rintro _ w8 ⟨rfl, s8⟩
          go_wp2
          go_ret
          exact ⟨ret_bool (by rw [HE1.out, HE2.out]; simp), eb1.trans (he.trans s8)⟩

set_option maxRecDepth 100000 in
set_option maxHeartbeats 8000000 in
theorem sRule_c (A : Option Addr) (ds : List DRule) (c : Nat) (i : Nat) (w : World) (hd : RdD w A ds c) (hi : i < ds.length) (hs : ShortD ds) (hw : WfD ds) :
    Gives Try.prog 33 #[vdesc (.slice A ds.length c), .int .i64 i] w (.bool (ruleOk ds i)) := by
  have hl := hd.len
  have hcap := hd.cap
  have eb := Ext_alloc (.cells #[.slice A ds.length c] 26) (Ext.refl w)
  have BX := fun w' (e : Ext (w.alloc (.cells #[.slice A ds.length c] 26)) w') => boxed e
  rw [ruleOk_at hi]
  obtain ⟨b, off, hA, hb, hall⟩ := hd.cells (by omega)
  have HALL := Lib.hid hall
  obtain ⟨Ab, cb, An, cn, At, ct, Ak, ck, hS, hRA⟩ := hall i hi
  clear hall
  have hsr := hs _ (List.getElem_mem hi); have hwr := hw _ (List.getElem_mem hi)
  have HF : Hid (∀ j (h : j < ds.length), freshNm ds ds[i] j = !(ds[j].nm.toList == ds[i].nm.toList)) := fun j h => freshNm_at h
  generalize ds[i] = r at *
  have HKO : Hid (∀ j (h : j < r.kids.length), kidOk r.kids i j = between r.kids[j] 0 ((i : Int) - 1)) := fun j h => kidOk_at h
  have CK := Lib.hid (fun w h h' => sKind_c A ds c r Ab cb An cn At ct Ak ck w h h' hsr hwr)
  have CN := Lib.hid (fun w => sIsName_c r.nm w hwr.nm)
  have HS := Lib.hid hS
  have hK := hS.k
  have hKl := hK.len
  generalize kindOk ds r = KO at *
  generalize isName r.nm = NM at *
  generalize freshNm ds r = FR at *
  have HSX : Hid (∀ w', Ext w w' → RdS w' r Ab cb An cn At ct Ak ck) := fun w' e => HS.out.ext e
  clear hS hsr hwr HS
  unfold vrule vdesc at *
  have CK' := Lib.hid (fun w' (e : Ext w w') => CK.out w' (hd.ext e) (HSX.out w' e))
  clear CK HSX
  replace hRA := hRA.ext eb
  obtain ⟨nm, kind, size, little, bytes, names, tags, kids⟩ := r
  obtain ⟨k0, k1, k2, k3, k4, k5, k6, k7⟩ := hRA
  dsimp only at *
  have hi1 : (i : Int) < (ds.length : Int) := by omega
  have hi0 : (0 : Int) ≤ (i : Int) := by omega
  have hic : (i : Int) ≤ (c : Int) := by omega
  have CI := Lib.hid (fun w => l1In_c (i : Int) 0 ((ds.length : Int) - 1) w)
  have HI : Hid ((decide ((0 : Int) ≤ (i : Int)) && decide ((i : Int) ≤ (ds.length : Int) - 1)) = true) := by show _ = _; simp; omega
  rw [HI.out] at CI
  clear HI hd
  subst hA
  go_enter Try.func33, Try.ntmps33
  go_wp2_with fail
  refine (CI.out _).mono ?_; rintro _ w1 ⟨rfl, s1⟩
  have x1 := Ext_alloc (.cells #[.string nm, .int .i64 kind, .int .i64 size, .bool little, .slice Ab bytes.length cb, .slice An names.length cn, .slice At tags.length ct, .slice Ak kids.length ck] 35) (Ext.refl w1)
  have BR := fun w' (e : Ext (w1.alloc (.cells #[.string nm, .int .i64 kind, .int .i64 size, .bool little, .slice Ab bytes.length cb, .slice An names.length cn, .slice At tags.length ct, .slice Ak kids.length ck] 35)) w') => boxed e
  have e1 := s1.trans x1
  have eb1 := eb.trans e1
  go_wp2
  go_loopw [6] (fun q wr => ∃ k : Nat, k ≤ i ∧ q = .int .i64 k ∧ Hid (∀ j, j < k → FR j = true) ∧ Ext (w1.alloc (.cells #[.string nm, .int .i64 kind, .int .i64 size, .bool little, .slice Ab bytes.length cb, .slice An names.length cn, .slice At tags.length ct, .slice Ak kids.length ck] 35)) wr) (fun q _ => i - (intOf q).toNat)
  case atStart => exact ⟨0, by omega, rfl, (fun j hj => by omega), Ext.refl _⟩
  case round =>
    skip
    obtain ⟨k, hk, rfl, ht, he⟩ := hrel
    have hx := e1.trans he
    by_cases hlt : k < i
    · have hkd : k < ds.length := by omega
      obtain ⟨Ab2, cb2, An2, cn2, At2, ct2, Ak2, ck2, _, hR2⟩ := HALL.out k hkd
      have HN := Lib.hid (HF.out k hkd)
      have NO : Hid (FR k = false → allN i FR = false) := fun hf => allN_no hlt hf
      have YES : Hid (FR k = true → ∀ j, j < k + 1 → FR j = true) := upTo ht.out
      generalize ds[k] = p at *
      obtain ⟨m0, m1, m2, m3, m4, m5, m6, m7⟩ := hR2.ext eb
      clear hR2 ht
      have hk1 : (k : Int) < (ds.length : Int) := by omega
      cases hq : (p.nm.toList == nm.toList)
      · have HE := Lib.hid (YES.out (HN.out.trans (by rw [hq]; rfl))); clear NO YES HN
        go_wp2_with fail
        refine wp_region_quiet_below (by kernel_rfl) (by kernel_rfl) ?_
        repeat (go_big_quiet_step (fail))
        refine wpQuiet_nil ?_
        rintro w5 ⟨⟨nq, osq⟩, hq⟩
        have ew5 := ext_of_q hq
        clear hq nq osq
        go_wp2
        go_roundw
        case rel => exact ⟨k+1, by omega, by go_num, HE.out, he.trans ew5⟩
        case measure => simp [intOf]; omega
      · have HE := Lib.hid (NO.out (HN.out.trans (by rw [hq]; rfl))); clear NO YES HN
        go_wp2_with fail
        refine wp_region_quiet_below (by kernel_rfl) (by kernel_rfl) ?_
        repeat (go_big_quiet_step (fail))
        refine wpQuiet_nil ?_
        rintro w5 ⟨⟨nq, osq⟩, hq⟩
        have ew5 := ext_of_q hq
        clear hq nq osq
        go_wp2
        go_ret
        exact ⟨ret_bool (by rw [HE.out]; simp), eb1.trans (he.trans ew5)⟩
    · have HE1 : Hid (allN i FR = true) := allN_yes (fun j hj => ht.out j (by omega))
      obtain ⟨wo, rfl⟩ : ∃ wo : World, wo = wr := ⟨_, rfl⟩
      clear ht HALL HF
      go_wp2
      go_loopw [7] (fun q wr => ∃ k : Nat, k ≤ kids.length ∧ q = .int .i64 k ∧ Hid (∀ j, j < k → kidOk kids i j = true) ∧ Ext (w1.alloc (.cells #[.string nm, .int .i64 kind, .int .i64 size, .bool little, .slice Ab bytes.length cb, .slice An names.length cn, .slice At tags.length ct, .slice Ak kids.length ck] 35)) wr) (fun q _ => kids.length - (intOf q).toNat)
      case atStart => exact ⟨0, by omega, rfl, (fun j hj => by omega), he⟩
      case round =>
        clear he hx
        obtain ⟨k, hk, rfl, ht, he⟩ := hrel
        have hx := e1.trans he
        by_cases hlt : k < kids.length
        · have HN := Lib.hid (HKO.out k hlt)
          have NO : Hid (kidOk kids i k = false → allN kids.length (kidOk kids i) = false) := fun hf => allN_no hlt hf
          have YES : Hid (kidOk kids i k = true → ∀ j, j < k + 1 → kidOk kids i j = true) := upTo ht.out
          obtain ⟨b2, off2, rfl, hb2, hc2⟩ := hK.at k hlt
          have hc3 := fun w' (e : Ext _ w') => hc2 w' (eb.trans e)
          clear hc2 ht
          generalize kids[k] = kid at *
          have CB := Lib.hid (fun w => l1In_c kid 0 ((i : Int) - 1) w)
          have HB : Hid (between kid 0 ((i : Int) - 1) = (decide ((0 : Int) ≤ kid) && decide (kid ≤ (i : Int) - 1))) := rfl
          rw [← HB.out] at CB
          clear HB
          generalize between kid 0 ((i : Int) - 1) = q1 at *
          cases q1
          · have HE := Lib.hid (NO.out HN.out); clear NO YES HN
            go_wp2_with fail
            refine (CB.out _).mono ?_; rintro _ w6 ⟨rfl, s6⟩
            go_wp2
            go_ret
            exact ⟨ret_bool (by rw [HE.out]; simp), eb1.trans (he.trans s6)⟩
          · have HE := Lib.hid (YES.out HN.out); clear NO YES HN
            go_wp2_with fail
            refine (CB.out _).mono ?_; rintro _ w6 ⟨rfl, s6⟩
            go_wp2
            go_roundw
            case rel => exact ⟨k+1, by omega, by go_num, HE.out, he.trans s6⟩
            case measure => simp [intOf]; omega
        · have HE2 : Hid (allN kids.length (kidOk kids i) = true) := allN_yes (fun j hj => ht.out j (by omega))
          cases NM
          · go_wp2_with fail
            refine (CN.out _).mono ?_; rintro _ w7 ⟨rfl, s7⟩
            go_wp2
            go_ret
            exact ⟨ret_bool (by simp), eb1.trans (he.trans s7)⟩
          · go_wp2_with fail
            refine (CN.out _).mono ?_; rintro _ w7 ⟨rfl, s7⟩
            have e7 := he.trans s7
            have hx7 := hx.trans s7
            go_wp2_with fail
            refine (CK'.out _ (eb1.trans e7)).mono ?_; rintro _ w8 ⟨rfl, s8⟩
            go_wp2
            go_ret
            exact ⟨ret_bool (by rw [HE1.out, HE2.out]; simp), eb1.trans (e7.trans s8)⟩

set_option maxRecDepth 100000 in
set_option maxHeartbeats 4000000 in
theorem iValidDesc_c (A : Option Addr) (ds : List DRule) (c : Nat) (w : World) (hd : RdD w A ds c) (hs : ShortD ds) (hw : WfD ds) :
    Gives Try.prog 29 #[vdesc (.slice A ds.length c)] w (.bool (descOk ds)) := by
  have hl := hd.len
  have eb := Ext_alloc (.cells #[.slice A ds.length c] 26) (Ext.refl w)
  have BX := fun w' (e : Ext (w.alloc (.cells #[.slice A ds.length c] 26)) w') => boxed e
  have CI := Lib.hid (fun w => iInRange_c (ds.length : Int) 1 24 w)
  have CR := Lib.hid (fun i w h hi => iRule_c A ds c i w h hi hs hw)
  have HB : Hid (between ds.length 1 24 = (decide ((1 : Int) ≤ (ds.length : Int)) && decide ((ds.length : Int) ≤ 24))) := rfl
  rw [← HB.out] at CI
  unfold descOk
  clear HB
  generalize between ds.length 1 24 = p at *
  unfold vdesc at *
  cases p
  · go_enter Try.func29, Try.ntmps29
    go_wp2_with fail
    refine (CI.out _).mono ?_; rintro _ w5 ⟨rfl, s5⟩
    go_wp2
    go_ret
    exact ⟨ret_bool (by simp), eb.trans s5⟩
  · go_enter Try.func29, Try.ntmps29
    go_wp2_with fail
    refine (CI.out _).mono ?_; rintro _ w5 ⟨rfl, s5⟩
    go_wp2
    go_loopw [12] (fun q wr => ∃ k : Nat, k ≤ ds.length ∧ q = .int .i64 k ∧ Hid (∀ j, j < k → ruleOk ds j = true) ∧ Ext (w.alloc (.cells #[.slice A ds.length c] 26)) wr) (fun q _ => ds.length - (intOf q).toNat)
    case atStart => exact ⟨0, by omega, rfl, (fun j hj => by omega), s5⟩
    case round =>
      clear s5
      obtain ⟨k, hk, rfl, ht, he⟩ := hrel
      by_cases hlt : k < ds.length
      · have C := Lib.hid (fun w h => CR.out k w h hlt)
        have NO : Hid (ruleOk ds k = false → allN ds.length (ruleOk ds) = false) := fun hf => allN_no hlt hf
        have YES : Hid (ruleOk ds k = true → ∀ j, j < k + 1 → ruleOk ds j = true) := upTo ht.out
        generalize ruleOk ds k = q at *
        clear ht
        cases q
        · have HE := Lib.hid (NO.out rfl); clear NO YES
          go_wp2_with fail
          refine (C.out _ (hd.ext (eb.trans he))).mono ?_; rintro _ w4 ⟨rfl, s4⟩
          go_wp2
          go_ret
          exact ⟨ret_bool (by rw [HE.out]; simp), eb.trans (he.trans s4)⟩
        · have HE := Lib.hid (YES.out rfl); clear NO YES
          go_wp2_with fail
          refine (C.out _ (hd.ext (eb.trans he))).mono ?_; rintro _ w4 ⟨rfl, s4⟩
          go_wp2
          go_roundw
          case rel => exact ⟨k+1, by omega, by go_num, HE.out, he.trans s4⟩
          case measure => simp [intOf]; omega
      · have HE : Hid (allN ds.length (ruleOk ds) = true) := allN_yes (fun j hj => ht.out j (by omega))
        go_wp2
        go_ret
        exact ⟨ret_bool (by rw [HE.out]; simp), eb.trans he⟩
set_option maxRecDepth 100000 in
set_option maxHeartbeats 4000000 in
theorem sValidDesc_c (A : Option Addr) (ds : List DRule) (c : Nat) (w : World) (hd : RdD w A ds c) (hs : ShortD ds) (hw : WfD ds) :
    Gives Try.prog 16 #[vdesc (.slice A ds.length c)] w (.bool (descOk ds)) := by
  have hl := hd.len
  have eb := Ext_alloc (.cells #[.slice A ds.length c] 26) (Ext.refl w)
  have BX := fun w' (e : Ext (w.alloc (.cells #[.slice A ds.length c] 26)) w') => boxed e
  have CI := Lib.hid (fun w => l1In_c (ds.length : Int) 1 24 w)
  have CR := Lib.hid (fun i w h hi => sRule_c A ds c i w h hi hs hw)
  have HB : Hid (between ds.length 1 24 = (decide ((1 : Int) ≤ (ds.length : Int)) && decide ((ds.length : Int) ≤ 24))) := rfl
  rw [← HB.out] at CI
  unfold descOk
  clear HB
  generalize between ds.length 1 24 = p at *
  unfold vdesc at *
  go_enter Try.func16, Try.ntmps16
  go_wp2
  go_loopw [3] (fun q wr => ∃ k : Nat, k ≤ ds.length ∧ q = .int .i64 k ∧ Hid (∀ j, j < k → ruleOk ds j = true) ∧ Ext (w.alloc (.cells #[.slice A ds.length c] 26)) wr) (fun q _ => ds.length - (intOf q).toNat)
  case atStart => exact ⟨0, by omega, rfl, (fun j hj => by omega), Ext.refl _⟩
  case round =>
    obtain ⟨k, hk, rfl, ht, he⟩ := hrel
    by_cases hlt : k < ds.length
    · have C := Lib.hid (fun w h => CR.out k w h hlt)
      have NO : Hid (ruleOk ds k = false → allN ds.length (ruleOk ds) = false) := fun hf => allN_no hlt hf
      have YES : Hid (ruleOk ds k = true → ∀ j, j < k + 1 → ruleOk ds j = true) := upTo ht.out
      generalize ruleOk ds k = q at *
      clear ht
      cases q
      · have HE := Lib.hid (NO.out rfl); clear NO YES
        go_wp2_with fail
        refine (C.out _ (hd.ext (eb.trans he))).mono ?_; rintro _ w4 ⟨rfl, s4⟩
        go_wp2
        go_ret
        exact ⟨ret_bool (by rw [HE.out]; simp), eb.trans (he.trans s4)⟩
      · have HE := Lib.hid (YES.out rfl); clear NO YES
        go_wp2_with fail
        refine (C.out _ (hd.ext (eb.trans he))).mono ?_; rintro _ w4 ⟨rfl, s4⟩
        go_wp2
        go_roundw
        case rel => exact ⟨k+1, by omega, by go_num, HE.out, he.trans s4⟩
        case measure => simp [intOf]; omega
    · have HE : Hid (allN ds.length (ruleOk ds) = true) := allN_yes (fun j hj => ht.out j (by omega))
      go_wp2_with fail
      refine (CI.out _).mono ?_; rintro _ w5 ⟨rfl, s5⟩
      go_wp2
      go_ret
      exact ⟨ret_bool (by rw [HE.out]; simp), eb.trans (he.trans s5)⟩
theorem regOk_at {gs : List (List DRule)} {k : Nat} (h : k < gs.length) : (match gs[k]? with | some d => descOk d | none => true) = descOk gs[k] := by rw [List.getElem?_eq_getElem h]
def regF (gs : List (List DRule)) (i : Nat) : Bool := match gs[i]? with | some d => descOk d | none => true
end Go.Proofs.Ytophjmphjdhjoaa
