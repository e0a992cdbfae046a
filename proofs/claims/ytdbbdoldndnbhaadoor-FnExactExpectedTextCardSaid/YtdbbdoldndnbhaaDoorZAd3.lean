/- Valid descriptions, as plain functions of the rules. -/
import Derived.Test.YtdbbdoldndnbhaaDoorZAd2
namespace Go.Proofs.YtdbbdoldndnbhaaDoor

/-- f holds at every number below n -/
def allN (n : Nat) (f : Nat → Bool) : Bool := (List.range n).all f
theorem allN_no {n k : Nat} {f : Nat → Bool} (hk : k < n) (h : f k = false) : allN n f = false := by
  unfold allN
  rw [Bool.eq_false_iff]
  intro hall
  have := List.all_eq_true.1 hall k (by simpa using hk)
  rw [h] at this; cases this
theorem allN_yes {n : Nat} {f : Nat → Bool} (h : ∀ j, j < n → f j = true) : allN n f = true := List.all_eq_true.2 fun j hj => h j (by simpa using hj)
theorem upTo {k : Nat} {f : Nat → Bool} (h : ∀ j, j < k → f j = true) (hk : f k = true) : ∀ j, j < k + 1 → f j = true := by
  intro j hj
  rcases (by omega : j < k ∨ j = k) with hj | rfl
  · exact h j hj
  · exact hk
/-- is the text among the first k of the list -/
def hasNm (l : List ByteArray) (s : ByteArray) : Bool := l.any fun x => x.toList == s.toList
theorem hasNm_at {l : List ByteArray} {s : ByteArray} {k : Nat} (hk : k < l.length) (h : (l[k].toList == s.toList) = true) : hasNm l s = true := List.any_eq_true.2 ⟨l[k], List.getElem_mem hk, h⟩
theorem hasNm_none {l : List ByteArray} {s : ByteArray} (h : ∀ k (hk : k < l.length), (l[k].toList == s.toList) = false) : hasNm l s = false := by
  unfold hasNm
  rw [List.any_eq_false]
  intro x hx
  obtain ⟨k, hk, rfl⟩ := List.getElem_of_mem hx
  rw [h k hk]; simp
/-- the greatest number of an integer rule, else -1 -/
def limR (r : DRule) : Int := if r.kind = 1 ∧ 1 ≤ r.size ∧ r.size ≤ 4 then 256 ^ r.size.toNat - 1 else -1
def limD (ds : List DRule) (i : Int) : Int := if 0 ≤ i then (match ds[i.toNat]? with | some r => limR r | none => -1) else -1
theorem limR_cases (r : DRule) : limR r = -1 ∨ limR r = 255 ∨ limR r = 65535 ∨ limR r = 16777215 ∨ limR r = 4294967295 := by
  unfold limR
  split
  · rename_i h
    rcases (by omega : r.size = 1 ∨ r.size = 2 ∨ r.size = 3 ∨ r.size = 4) with e | e | e | e <;> rw [e] <;> simp
  · exact .inl rfl
theorem limD_cases (ds : List DRule) (i : Int) : limD ds i = -1 ∨ limD ds i = 255 ∨ limD ds i = 65535 ∨ limD ds i = 16777215 ∨ limD ds i = 4294967295 := by
  unfold limD
  split
  · split
    · exact limR_cases _
    · exact .inl rfl
  · exact .inl rfl
/-- the fields that a rule may have -/
def plainB (r : DRule) (size bytes names tags : Bool) (kids : Int) : Bool :=
  (size || r.size == 0) && (bytes || r.bytes.length == 0) && (names || r.names.length == 0) && (tags || r.tags.length == 0) && (decide (kids < 0) || decide ((r.kids.length : Int) = kids))
def between (n lo hi : Int) : Bool := decide (lo ≤ n) && decide (n ≤ hi)
def nameOk (l : List ByteArray) (i : Nat) : Bool := match l[i]? with | some s => isName s && !hasNm (l.take i) s | none => true
def seqOk (r : DRule) : Bool := plainB r false false true false (-1) && r.kids.length == r.names.length && between r.kids.length 1 8 && allN r.names.length (nameOk r.names)
def tagOk (lim : Int) (l : List Int) (i : Nat) : Bool := match l[i]? with | some t => between t 0 lim && (i == 0 || decide (l.getD (i - 1) 0 < t)) | none => true
def choOk (ds : List DRule) (r : DRule) : Bool := plainB r false false false true (r.tags.length + 1) && between r.tags.length 1 8 && allN r.tags.length (tagOk (limD ds (r.kids.getD 0 0)) r.tags)
def kindOk (ds : List DRule) (r : DRule) : Bool :=
  if r.kind = 1 then plainB r true false false false 0 && between r.size 1 4 && (!r.little || decide (1 < r.size))
  else if r.kind = 2 then plainB r false true false false 0 && between r.bytes.length 1 16
  else if r.kind = 3 then plainB r true false false false 0 && between r.size 1 64
  else if r.kind = 4 then plainB r false false false false 1 && decide (0 < limD ds (r.kids.getD 0 0))
  else if r.kind = 5 then plainB r false false false false 2 && decide (0 < limD ds (r.kids.getD 0 0))
  else if r.kind = 6 then seqOk r
  else if r.kind = 7 then choOk ds r
  else if r.kind = 8 then plainB r false false false false 1
  else if r.kind = 9 then plainB r false false false false 1
  else if r.kind = 10 then plainB r false true false false 0 && r.bytes.length == 1 && !(r.bytes.getD 0 0 == 92)
  else false
def freshNm (ds : List DRule) (r : DRule) (j : Nat) : Bool := match ds[j]? with | some q => !(q.nm.toList == r.nm.toList) | none => true
def kidOk (l : List Int) (i : Nat) (j : Nat) : Bool := match l[j]? with | some k => between k 0 ((i : Int) - 1) | none => true
/-- rule number i is valid -/
def ruleOk (ds : List DRule) (i : Nat) : Bool := match ds[i]? with
  | some r => isName r.nm && (!r.little || r.kind == 1) && allN i (freshNm ds r) && allN r.kids.length (kidOk r.kids i) && kindOk ds r
  | none => false
def ruleOkI (ds : List DRule) (i : Int) : Bool := decide (0 ≤ i) && ruleOk ds i.toNat
def descOk (ds : List DRule) : Bool := between ds.length 1 24 && allN ds.length (ruleOk ds)
def regOk (gs : List (List DRule)) : Bool := decide (gs.length ≤ 8) && allN gs.length (fun i => match gs[i]? with | some d => descOk d | none => true)
end Go.Proofs.YtdbbdoldndnbhaaDoor

/- Parts of the test of a description: names in lists, limits, fields. -/
namespace Go.Proofs.YtdbbdoldndnbhaaDoor
open Go.RowKit Go.Sort

set_option maxHeartbeats 400000 in
theorem sContains_c (A : Option Addr) (l : List ByteArray) (c : Nat) (s : ByteArray) (w : World) (h : Rd0 vstr w A l c) :
    Gives Tryd.prog 129 #[.slice A l.length c, .string s] w (.bool (hasNm l s)) := by
  have hl := h.len
  go_enter Tryd.func129, Tryd.ntmps129
  go_wp2
  go_loopw [5] (fun i wr => ∃ k : Nat, k ≤ l.length ∧ i = .int .i64 k ∧ Hid (∀ j (hj : j < l.length), j < k → (l[j].toList == s.toList) = false) ∧ Ext w wr) (fun i _ => l.length - (intOf i).toNat)
  case atStart => exact ⟨0, by omega, rfl, (fun j _ hj => by omega), Ext.refl _⟩
  case round =>
    obtain ⟨k, hk, rfl, ht, he⟩ := hrel
    by_cases hlt : k < l.length
    · obtain ⟨b, off, rfl, hb, hc⟩ := h.at k hlt
      have YES : Hid ((l[k].toList == s.toList) = true → hasNm l s = true) := hasNm_at hlt
      have NO : Hid ((l[k].toList == s.toList) = false → ∀ j (hj : j < l.length), j < k + 1 → (l[j].toList == s.toList) = false) := by
        intro hy j hj hjk
        rcases (by omega : j < k ∨ j = k) with hjk | rfl
        · exact ht.out j hj hjk
        · exact hy
      clear h
      generalize l[k] = x at *
      cases hq : (x.toList == s.toList)
      · have NO' := Lib.hid (NO.out hq)
        go_wp2
        go_roundw
        case rel => exact ⟨k+1, by omega, by go_num, NO'.out, he⟩
        case measure => simp [intOf]; omega
      · have YES' := Lib.hid (YES.out hq)
        go_wp2
        go_ret
        exact ⟨ret_bool YES'.out.symm, he⟩
    · have HE : Hid (hasNm l s = false) := hasNm_none (fun j hj => ht.out j hj (by omega))
      go_wp2
      go_ret
      exact ⟨ret_bool HE.out.symm, he⟩
set_option maxHeartbeats 400000 in
theorem iContains_c (A : Option Addr) (l : List ByteArray) (c : Nat) (s : ByteArray) (w : World) (h : Rd0 vstr w A l c) :
    Gives Tryd.prog 130 #[.slice A l.length c, .string s] w (.bool (hasNm l s)) := by
  have hl := h.len
  go_enter Tryd.func130, Tryd.ntmps130
  go_wp2
  go_loopw [9] (fun i wr => ∃ k : Nat, k ≤ l.length ∧ i = .int .i64 k ∧ Hid (∀ j (hj : j < l.length), j < k → (l[j].toList == s.toList) = false) ∧ Ext w wr) (fun i _ => l.length - (intOf i).toNat)
  case atStart => exact ⟨0, by omega, rfl, (fun j _ hj => by omega), Ext.refl _⟩
  case round =>
    obtain ⟨k, hk, rfl, ht, he⟩ := hrel
    by_cases hlt : k < l.length
    · obtain ⟨b, off, rfl, hb, hc⟩ := h.at k hlt
      have YES : Hid ((l[k].toList == s.toList) = true → hasNm l s = true) := hasNm_at hlt
      have NO : Hid ((l[k].toList == s.toList) = false → ∀ j (hj : j < l.length), j < k + 1 → (l[j].toList == s.toList) = false) := by
        intro hy j hj hjk
        rcases (by omega : j < k ∨ j = k) with hjk | rfl
        · exact ht.out j hj hjk
        · exact hy
      clear h
      generalize l[k] = x at *
      cases hq : (x.toList == s.toList)
      · have NO' := Lib.hid (NO.out hq)
        go_wp2
        go_roundw
        case rel => exact ⟨k+1, by omega, by go_num, NO'.out, he⟩
        case measure => simp [intOf]; omega
      · have YES' := Lib.hid (YES.out hq)
        go_wp2
        go_ret
        exact ⟨ret_bool YES'.out.symm, he⟩
    · have HE : Hid (hasNm l s = false) := hasNm_none (fun j hj => ht.out j hj (by omega))
      go_wp2
      go_ret
      exact ⟨ret_bool HE.out.symm, he⟩
set_option maxHeartbeats 400000 in
theorem hasRule_c (A : Option Addr) (n c : Nat) (i : Int) (w : World) (hn : n ≤ 9223372036854775807) :
    Gives Tryd.prog 57 #[vdesc (.slice A n c), .int .i64 i] w (.bool (decide (0 ≤ i) && decide (i < n))) := by
  unfold vdesc
  by_cases h0 : 0 ≤ i
  · by_cases h1 : i < n
    all_goals
      go_enter Tryd.func57, Tryd.ntmps57
      go_wp2
      go_ret
      exact ⟨ret_bool (by simp [*]), Ext_alloc _ (Ext.refl w)⟩
  · go_enter Tryd.func57, Tryd.ntmps57
    go_wp2
    go_ret
    exact ⟨ret_bool (by simp; omega), Ext_alloc _ (Ext.refl w)⟩
end Go.Proofs.YtdbbdoldndnbhaaDoor

/- Limits of integers; the fields that a rule may have. -/
namespace Go.Proofs.YtdbbdoldndnbhaaDoor
open Go.RowKit Go.Sort

theorem limD_out {ds : List DRule} {i : Int} (h : ¬ (0 ≤ i ∧ i < ds.length)) : limD ds i = -1 := by
  unfold limD
  split
  · rw [List.getElem?_eq_none (by omega)]
  · rfl
theorem limD_in {ds : List DRule} {k : Nat} (h : k < ds.length) : limD ds (k : Int) = limR ds[k] := by
  unfold limD
  rw [if_pos (by omega), Int.toNat_natCast, List.getElem?_eq_getElem h]
theorem limR_kind {r : DRule} (h : r.kind ≠ 1) : limR r = -1 := by unfold limR; rw [if_neg (by omega)]
theorem limR_size {r : DRule} (h : ¬ (1 ≤ r.size ∧ r.size ≤ 4)) : limR r = -1 := by unfold limR; rw [if_neg (by omega)]
theorem limR_yes {r : DRule} (h : r.kind = 1) (s : Nat) (h1 : 1 ≤ s) (h2 : s ≤ 4) (e : r.size = s) : limR r = 256 ^ s - 1 := by
  unfold limR; rw [if_pos (by omega), e, Int.toNat_natCast]
set_option maxRecDepth 100000 in
set_option maxHeartbeats 2000000 in
theorem iLimit_c (A : Option Addr) (ds : List DRule) (c : Nat) (i : Int) (w : World) (h : RdD w A ds c) :
    Gives Tryd.prog 118 #[vdesc (.slice A ds.length c), .int .i64 i] w (.int .i64 (limD ds i)) := by
  have hl := h.len
  have eb := Ext_alloc (.cells #[.slice A ds.length c] 30) (Ext.refl w)
  have BX := fun w' (e : Ext (w.alloc (.cells #[.slice A ds.length c] 30)) w') => boxed e 0
  simp only [List.getElem?_toArray, List.getElem?_cons_zero] at BX
  have CR := Lib.hid (fun w => hasRule_c A ds.length c i w hl)
  unfold vdesc at *
  by_cases hin : 0 ≤ i ∧ i < ds.length
  · obtain ⟨k, rfl⟩ := Int.eq_ofNat_of_zero_le hin.1
    have hlt : k < ds.length := by omega
    have HI : Hid ((decide ((0 : Int) ≤ (k : Int)) && decide ((k : Int) < (ds.length : Int))) = true) := by show _ = _; simp; omega
    rw [HI.out] at CR
    obtain ⟨b, off, Ab, cb, An, cn, At, ct, Ak, ck, rfl, hb, hS, hR⟩ := h.at k hlt
    have HV := Lib.hid (limD_in hlt)
    rw [HV.out]
    have hR' := hR.ext eb
    clear hR hS h
    generalize ds[k] = r at *
    obtain ⟨k0, k1, k2, k3, k4, k5, k6, k7⟩ := hR'
    clear k0 k3 k4 k5 k6 k7 hin
    by_cases hk : r.kind = 1
    · by_cases hs : 1 ≤ r.size ∧ r.size ≤ 4
      · have hs4 : r.size = ((1 : Nat) : Int) ∨ r.size = ((2 : Nat) : Int) ∨ r.size = ((3 : Nat) : Int) ∨ r.size = ((4 : Nat) : Int) := by omega
        have CI := Lib.hid (fun w => iInRange_c r.size 1 4 w)
        have HJ : Hid ((decide ((1 : Int) ≤ r.size) && decide (r.size ≤ 4)) = true) := by show _ = _; simp; omega
        rw [HJ.out] at CI
        rcases hs4 with e | e | e | e
        · have HL := Lib.hid (limR_yes hk 1 (by omega) (by omega) e)
          rw [HL.out]
          rw [e] at k2 CI
          rw [hk] at k1
          clear hs hk e HJ
          go_enter Tryd.func118, Tryd.ntmps118
          go_wp2_with fail
          refine (CR.out _).mono ?_; rintro _ w1 ⟨rfl, he1⟩
          go_wp2_with fail
          refine (CI.out _).mono ?_; rintro _ w2 ⟨rfl, he2⟩
          have e2 := he1.trans he2
          go_wp2
          go_ret
          exact ⟨ret_i64 (by simp), eb.trans e2⟩
        · have HL := Lib.hid (limR_yes hk 2 (by omega) (by omega) e)
          rw [HL.out]
          rw [e] at k2 CI
          rw [hk] at k1
          clear hs hk e HJ
          go_enter Tryd.func118, Tryd.ntmps118
          go_wp2_with fail
          refine (CR.out _).mono ?_; rintro _ w1 ⟨rfl, he1⟩
          go_wp2_with fail
          refine (CI.out _).mono ?_; rintro _ w2 ⟨rfl, he2⟩
          have e2 := he1.trans he2
          go_wp2
          go_ret
          exact ⟨ret_i64 (by simp), eb.trans e2⟩
        · have HL := Lib.hid (limR_yes hk 3 (by omega) (by omega) e)
          rw [HL.out]
          rw [e] at k2 CI
          rw [hk] at k1
          clear hs hk e HJ
          go_enter Tryd.func118, Tryd.ntmps118
          go_wp2_with fail
          refine (CR.out _).mono ?_; rintro _ w1 ⟨rfl, he1⟩
          go_wp2_with fail
          refine (CI.out _).mono ?_; rintro _ w2 ⟨rfl, he2⟩
          have e2 := he1.trans he2
          go_wp2
          go_ret
          exact ⟨ret_i64 (by simp), eb.trans e2⟩
        · have HL := Lib.hid (limR_yes hk 4 (by omega) (by omega) e)
          rw [HL.out]
          rw [e] at k2 CI
          rw [hk] at k1
          clear hs hk e HJ
          go_enter Tryd.func118, Tryd.ntmps118
          go_wp2_with fail
          refine (CR.out _).mono ?_; rintro _ w1 ⟨rfl, he1⟩
          go_wp2_with fail
          refine (CI.out _).mono ?_; rintro _ w2 ⟨rfl, he2⟩
          have e2 := he1.trans he2
          go_wp2
          go_ret
          exact ⟨ret_i64 (by simp), eb.trans e2⟩
      · have CI := Lib.hid (fun w => iInRange_c r.size 1 4 w)
        have HJ : Hid ((decide ((1 : Int) ≤ r.size) && decide (r.size ≤ 4)) = false) := by show _ = _; rw [Bool.and_eq_false_iff]; simp; omega
        rw [HJ.out] at CI
        have HL := Lib.hid (limR_size hs)
        rw [HL.out]
        rw [hk] at k1
        clear hs hk HJ
        go_enter Tryd.func118, Tryd.ntmps118
        go_wp2_with fail
        refine (CR.out _).mono ?_; rintro _ w1 ⟨rfl, he1⟩
        go_wp2_with fail
        refine (CI.out _).mono ?_; rintro _ w2 ⟨rfl, he2⟩
        go_wp2
        go_ret
        exact ⟨rfl, eb.trans (he1.trans he2)⟩
    · have HL := Lib.hid (limR_kind hk)
      rw [HL.out]
      have hk1 : (r.kind != 1) = true := by simpa using hk
      go_enter Tryd.func118, Tryd.ntmps118
      go_wp2_with fail
      refine (CR.out _).mono ?_; rintro _ w1 ⟨rfl, he1⟩
      go_wp2
      go_ret
      exact ⟨rfl, eb.trans he1⟩
  · have HI : Hid ((decide ((0 : Int) ≤ i) && decide (i < (ds.length : Int))) = false) := by show _ = _; rw [Bool.and_eq_false_iff]; simp; omega
    rw [HI.out] at CR
    have HL := Lib.hid (limD_out hin)
    rw [HL.out]
    clear hin
    go_enter Tryd.func118, Tryd.ntmps118
    go_wp2_with fail
    refine (CR.out _).mono ?_; rintro _ w1 ⟨rfl, he1⟩
    go_wp2
    go_ret
    exact ⟨rfl, eb.trans he1⟩
set_option maxHeartbeats 400000 in
theorem l2PowerN_c (s : Nat) (w : World) (h1 : 1 ≤ s) (h2 : s ≤ 4) : Gives Tryd.prog 128 #[.int .i64 (s : Int)] w (.int .i64 (256 ^ s)) := by
  rcases (by omega : s = 1 ∨ s = 2 ∨ s = 3 ∨ s = 4) with rfl | rfl | rfl | rfl
  all_goals
    go_enter Tryd.func128, Tryd.ntmps128
    go_wp2
    go_ret
    exact ⟨ret_i64 (by simp), Ext.refl _⟩
set_option maxRecDepth 100000 in
set_option maxHeartbeats 2000000 in
theorem sLimit_c (A : Option Addr) (ds : List DRule) (c : Nat) (i : Int) (w : World) (h : RdD w A ds c) :
    Gives Tryd.prog 114 #[vdesc (.slice A ds.length c), .int .i64 i] w (.int .i64 (limD ds i)) := by
  have hl := h.len
  have eb := Ext_alloc (.cells #[.slice A ds.length c] 30) (Ext.refl w)
  have BX := fun w' (e : Ext (w.alloc (.cells #[.slice A ds.length c] 30)) w') => boxed e 0
  simp only [List.getElem?_toArray, List.getElem?_cons_zero] at BX
  have CR := Lib.hid (fun w => l1In_c i 0 ((ds.length : Int) - 1) w)
  unfold vdesc at *
  by_cases hin : 0 ≤ i ∧ i < ds.length
  · obtain ⟨k, rfl⟩ := Int.eq_ofNat_of_zero_le hin.1
    have hlt : k < ds.length := by omega
    have HI : Hid ((decide ((0 : Int) ≤ (k : Int)) && decide ((k : Int) ≤ (ds.length : Int) - 1)) = true) := by show _ = _; simp; omega
    rw [HI.out] at CR
    obtain ⟨b, off, Ab, cb, An, cn, At, ct, Ak, ck, rfl, hb, hS, hR⟩ := h.at k hlt
    have HV := Lib.hid (limD_in hlt)
    rw [HV.out]
    have hR' := hR.ext eb
    clear hR hS h
    generalize ds[k] = r at *
    obtain ⟨k0, k1, k2, k3, k4, k5, k6, k7⟩ := hR'
    clear k0 k3 k4 k5 k6 k7 hin
    by_cases hk : r.kind = 1
    · by_cases hs : 1 ≤ r.size ∧ r.size ≤ 4
      · have hs4 : r.size = ((1 : Nat) : Int) ∨ r.size = ((2 : Nat) : Int) ∨ r.size = ((3 : Nat) : Int) ∨ r.size = ((4 : Nat) : Int) := by omega
        have CI := Lib.hid (fun w => l1In_c r.size 1 4 w)
        have HJ : Hid ((decide ((1 : Int) ≤ r.size) && decide (r.size ≤ 4)) = true) := by show _ = _; simp; omega
        rw [HJ.out] at CI
        rcases hs4 with e | e | e | e
        · have HL := Lib.hid (limR_yes hk 1 (by omega) (by omega) e)
          rw [HL.out]
          rw [e] at k2 CI
          rw [hk] at k1
          clear hs hk e HJ
          go_enter Tryd.func114, Tryd.ntmps114
          go_wp2_with fail
          refine (CR.out _).mono ?_; rintro _ w1 ⟨rfl, he1⟩
          go_wp2_with fail
          refine (CI.out _).mono ?_; rintro _ w2 ⟨rfl, he2⟩
          have e2 := he1.trans he2
          go_wp2_with fail
          refine (l2PowerN_c 1 _ (by omega) (by omega)).mono ?_
          rintro _ w3 ⟨rfl, he3⟩
          have e3 := e2.trans he3
          go_wp2
          go_ret
          exact ⟨ret_i64 (by simp), eb.trans e3⟩
        · have HL := Lib.hid (limR_yes hk 2 (by omega) (by omega) e)
          rw [HL.out]
          rw [e] at k2 CI
          rw [hk] at k1
          clear hs hk e HJ
          go_enter Tryd.func114, Tryd.ntmps114
          go_wp2_with fail
          refine (CR.out _).mono ?_; rintro _ w1 ⟨rfl, he1⟩
          go_wp2_with fail
          refine (CI.out _).mono ?_; rintro _ w2 ⟨rfl, he2⟩
          have e2 := he1.trans he2
          go_wp2_with fail
          refine (l2PowerN_c 2 _ (by omega) (by omega)).mono ?_
          rintro _ w3 ⟨rfl, he3⟩
          have e3 := e2.trans he3
          go_wp2
          go_ret
          exact ⟨ret_i64 (by simp), eb.trans e3⟩
        · have HL := Lib.hid (limR_yes hk 3 (by omega) (by omega) e)
          rw [HL.out]
          rw [e] at k2 CI
          rw [hk] at k1
          clear hs hk e HJ
          go_enter Tryd.func114, Tryd.ntmps114
          go_wp2_with fail
          refine (CR.out _).mono ?_; rintro _ w1 ⟨rfl, he1⟩
          go_wp2_with fail
          refine (CI.out _).mono ?_; rintro _ w2 ⟨rfl, he2⟩
          have e2 := he1.trans he2
          go_wp2_with fail
          refine (l2PowerN_c 3 _ (by omega) (by omega)).mono ?_
          rintro _ w3 ⟨rfl, he3⟩
          have e3 := e2.trans he3
          go_wp2
          go_ret
          exact ⟨ret_i64 (by simp), eb.trans e3⟩
        · have HL := Lib.hid (limR_yes hk 4 (by omega) (by omega) e)
          rw [HL.out]
          rw [e] at k2 CI
          rw [hk] at k1
          clear hs hk e HJ
          go_enter Tryd.func114, Tryd.ntmps114
          go_wp2_with fail
          refine (CR.out _).mono ?_; rintro _ w1 ⟨rfl, he1⟩
          go_wp2_with fail
          refine (CI.out _).mono ?_; rintro _ w2 ⟨rfl, he2⟩
          have e2 := he1.trans he2
          go_wp2_with fail
          refine (l2PowerN_c 4 _ (by omega) (by omega)).mono ?_
          rintro _ w3 ⟨rfl, he3⟩
          have e3 := e2.trans he3
          go_wp2
          go_ret
          exact ⟨ret_i64 (by simp), eb.trans e3⟩
      · have CI := Lib.hid (fun w => l1In_c r.size 1 4 w)
        have HJ : Hid ((decide ((1 : Int) ≤ r.size) && decide (r.size ≤ 4)) = false) := by show _ = _; rw [Bool.and_eq_false_iff]; simp; omega
        rw [HJ.out] at CI
        have HL := Lib.hid (limR_size hs)
        rw [HL.out]
        rw [hk] at k1
        clear hs hk HJ
        go_enter Tryd.func114, Tryd.ntmps114
        go_wp2_with fail
        refine (CR.out _).mono ?_; rintro _ w1 ⟨rfl, he1⟩
        go_wp2_with fail
        refine (CI.out _).mono ?_; rintro _ w2 ⟨rfl, he2⟩
        go_wp2
        go_ret
        exact ⟨rfl, eb.trans (he1.trans he2)⟩
    · have HL := Lib.hid (limR_kind hk)
      rw [HL.out]
      have hk1 : (r.kind != 1) = true := by simpa using hk
      go_enter Tryd.func114, Tryd.ntmps114
      go_wp2_with fail
      refine (CR.out _).mono ?_; rintro _ w1 ⟨rfl, he1⟩
      go_wp2
      go_ret
      exact ⟨rfl, eb.trans he1⟩
  · have HI : Hid ((decide ((0 : Int) ≤ i) && decide (i ≤ (ds.length : Int) - 1)) = false) := by show _ = _; rw [Bool.and_eq_false_iff]; simp; omega
    rw [HI.out] at CR
    have HL := Lib.hid (limD_out hin)
    rw [HL.out]
    clear hin
    go_enter Tryd.func114, Tryd.ntmps114
    go_wp2_with fail
    refine (CR.out _).mono ?_; rintro _ w1 ⟨rfl, he1⟩
    go_wp2
    go_ret
    exact ⟨rfl, eb.trans he1⟩
end Go.Proofs.YtdbbdoldndnbhaaDoor

/- The fields that a rule may have. -/
namespace Go.Proofs.YtdbbdoldndnbhaaDoor
open Go.RowKit Go.Sort

set_option maxHeartbeats 2000000 in
theorem iPlain1000_c (r : DRule) (Ab : Option Addr) (cb : Nat) (An : Option Addr) (cn : Nat) (At : Option Addr) (ct : Nat) (Ak : Option Addr) (ck : Nat) (kids : Int) (w : World) (hl : r.bytes.length ≤ 9223372036854775807 ∧ r.names.length ≤ 9223372036854775807 ∧ r.tags.length ≤ 9223372036854775807 ∧ r.kids.length ≤ 9223372036854775807) :
    Gives Tryd.prog 117 #[vrule r (.slice Ab r.bytes.length cb) (.slice An r.names.length cn) (.slice At r.tags.length ct) (.slice Ak r.kids.length ck), .bool true, .bool false, .bool false, .bool false, .int .i64 kids] w (.bool (plainB r true false false false kids)) := by
  obtain ⟨l1, l2, l3, l4⟩ := hl
  unfold plainB
  obtain ⟨nm, kind, size, little, bytes, names, tags, kd⟩ := r
  unfold vrule
  dsimp only at *
  cases g_bytes : (bytes.length == 0)
  · have k_bytes : (((bytes.length : Nat) : Int) == 0) = false := by simpa using g_bytes
    go_enter Tryd.func117, Tryd.ntmps117
    go_wp2
    go_ret
    exact ⟨ret_bool (by simp [*]), Ext_alloc _ (Ext.refl w)⟩
  have k_bytes : (((bytes.length : Nat) : Int) == 0) = true := by simpa using g_bytes
  cases g_names : (names.length == 0)
  · have k_names : (((names.length : Nat) : Int) == 0) = false := by simpa using g_names
    go_enter Tryd.func117, Tryd.ntmps117
    go_wp2
    go_ret
    exact ⟨ret_bool (by simp [*]), Ext_alloc _ (Ext.refl w)⟩
  have k_names : (((names.length : Nat) : Int) == 0) = true := by simpa using g_names
  cases g_tags : (tags.length == 0)
  · have k_tags : (((tags.length : Nat) : Int) == 0) = false := by simpa using g_tags
    go_enter Tryd.func117, Tryd.ntmps117
    go_wp2
    go_ret
    exact ⟨ret_bool (by simp [*]), Ext_alloc _ (Ext.refl w)⟩
  have k_tags : (((tags.length : Nat) : Int) == 0) = true := by simpa using g_tags
  by_cases hk : kids < 0
  · have dk : decide (kids < 0) = true := by simpa using hk
    go_enter Tryd.func117, Tryd.ntmps117
    go_wp2
    go_ret
    exact ⟨ret_bool (by simp [*]), Ext_alloc _ (Ext.refl w)⟩
  · have dk : decide (kids < 0) = false := by simpa using hk
    by_cases hq : ((kd.length : Int) = kids)
    · have k_kids : ((kd.length : Int) == kids) = true := by simpa using hq
      have HQ := Lib.hid hq; clear hq
      go_enter Tryd.func117, Tryd.ntmps117
      go_wp2
      go_ret
      exact ⟨ret_bool (by have := HQ.out; simp [*]), Ext_alloc _ (Ext.refl w)⟩
    · have k_kids : ((kd.length : Int) == kids) = false := by simpa using hq
      go_enter Tryd.func117, Tryd.ntmps117
      go_wp2
      go_ret
      exact ⟨ret_bool (by simp [*]), Ext_alloc _ (Ext.refl w)⟩
set_option maxHeartbeats 2000000 in
theorem iPlain0100_c (r : DRule) (Ab : Option Addr) (cb : Nat) (An : Option Addr) (cn : Nat) (At : Option Addr) (ct : Nat) (Ak : Option Addr) (ck : Nat) (kids : Int) (w : World) (hl : r.bytes.length ≤ 9223372036854775807 ∧ r.names.length ≤ 9223372036854775807 ∧ r.tags.length ≤ 9223372036854775807 ∧ r.kids.length ≤ 9223372036854775807) :
    Gives Tryd.prog 117 #[vrule r (.slice Ab r.bytes.length cb) (.slice An r.names.length cn) (.slice At r.tags.length ct) (.slice Ak r.kids.length ck), .bool false, .bool true, .bool false, .bool false, .int .i64 kids] w (.bool (plainB r false true false false kids)) := by
  obtain ⟨l1, l2, l3, l4⟩ := hl
  unfold plainB
  obtain ⟨nm, kind, size, little, bytes, names, tags, kd⟩ := r
  unfold vrule
  dsimp only at *
  cases g_size : (size == 0)
  · skip
    go_enter Tryd.func117, Tryd.ntmps117
    go_wp2
    go_ret
    exact ⟨ret_bool (by simp [*]), Ext_alloc _ (Ext.refl w)⟩
  cases g_names : (names.length == 0)
  · have k_names : (((names.length : Nat) : Int) == 0) = false := by simpa using g_names
    go_enter Tryd.func117, Tryd.ntmps117
    go_wp2
    go_ret
    exact ⟨ret_bool (by simp [*]), Ext_alloc _ (Ext.refl w)⟩
  have k_names : (((names.length : Nat) : Int) == 0) = true := by simpa using g_names
  cases g_tags : (tags.length == 0)
  · have k_tags : (((tags.length : Nat) : Int) == 0) = false := by simpa using g_tags
    go_enter Tryd.func117, Tryd.ntmps117
    go_wp2
    go_ret
    exact ⟨ret_bool (by simp [*]), Ext_alloc _ (Ext.refl w)⟩
  have k_tags : (((tags.length : Nat) : Int) == 0) = true := by simpa using g_tags
  by_cases hk : kids < 0
  · have dk : decide (kids < 0) = true := by simpa using hk
    go_enter Tryd.func117, Tryd.ntmps117
    go_wp2
    go_ret
    exact ⟨ret_bool (by simp [*]), Ext_alloc _ (Ext.refl w)⟩
  · have dk : decide (kids < 0) = false := by simpa using hk
    by_cases hq : ((kd.length : Int) = kids)
    · have k_kids : ((kd.length : Int) == kids) = true := by simpa using hq
      have HQ := Lib.hid hq; clear hq
      go_enter Tryd.func117, Tryd.ntmps117
      go_wp2
      go_ret
      exact ⟨ret_bool (by have := HQ.out; simp [*]), Ext_alloc _ (Ext.refl w)⟩
    · have k_kids : ((kd.length : Int) == kids) = false := by simpa using hq
      go_enter Tryd.func117, Tryd.ntmps117
      go_wp2
      go_ret
      exact ⟨ret_bool (by simp [*]), Ext_alloc _ (Ext.refl w)⟩
set_option maxHeartbeats 2000000 in
theorem iPlain0000_c (r : DRule) (Ab : Option Addr) (cb : Nat) (An : Option Addr) (cn : Nat) (At : Option Addr) (ct : Nat) (Ak : Option Addr) (ck : Nat) (kids : Int) (w : World) (hl : r.bytes.length ≤ 9223372036854775807 ∧ r.names.length ≤ 9223372036854775807 ∧ r.tags.length ≤ 9223372036854775807 ∧ r.kids.length ≤ 9223372036854775807) :
    Gives Tryd.prog 117 #[vrule r (.slice Ab r.bytes.length cb) (.slice An r.names.length cn) (.slice At r.tags.length ct) (.slice Ak r.kids.length ck), .bool false, .bool false, .bool false, .bool false, .int .i64 kids] w (.bool (plainB r false false false false kids)) := by
  obtain ⟨l1, l2, l3, l4⟩ := hl
  unfold plainB
  obtain ⟨nm, kind, size, little, bytes, names, tags, kd⟩ := r
  unfold vrule
  dsimp only at *
  cases g_size : (size == 0)
  · skip
    go_enter Tryd.func117, Tryd.ntmps117
    go_wp2
    go_ret
    exact ⟨ret_bool (by simp [*]), Ext_alloc _ (Ext.refl w)⟩
  cases g_bytes : (bytes.length == 0)
  · have k_bytes : (((bytes.length : Nat) : Int) == 0) = false := by simpa using g_bytes
    go_enter Tryd.func117, Tryd.ntmps117
    go_wp2
    go_ret
    exact ⟨ret_bool (by simp [*]), Ext_alloc _ (Ext.refl w)⟩
  have k_bytes : (((bytes.length : Nat) : Int) == 0) = true := by simpa using g_bytes
  cases g_names : (names.length == 0)
  · have k_names : (((names.length : Nat) : Int) == 0) = false := by simpa using g_names
    go_enter Tryd.func117, Tryd.ntmps117
    go_wp2
    go_ret
    exact ⟨ret_bool (by simp [*]), Ext_alloc _ (Ext.refl w)⟩
  have k_names : (((names.length : Nat) : Int) == 0) = true := by simpa using g_names
  cases g_tags : (tags.length == 0)
  · have k_tags : (((tags.length : Nat) : Int) == 0) = false := by simpa using g_tags
    go_enter Tryd.func117, Tryd.ntmps117
    go_wp2
    go_ret
    exact ⟨ret_bool (by simp [*]), Ext_alloc _ (Ext.refl w)⟩
  have k_tags : (((tags.length : Nat) : Int) == 0) = true := by simpa using g_tags
  by_cases hk : kids < 0
  · have dk : decide (kids < 0) = true := by simpa using hk
    go_enter Tryd.func117, Tryd.ntmps117
    go_wp2
    go_ret
    exact ⟨ret_bool (by simp [*]), Ext_alloc _ (Ext.refl w)⟩
  · have dk : decide (kids < 0) = false := by simpa using hk
    by_cases hq : ((kd.length : Int) = kids)
    · have k_kids : ((kd.length : Int) == kids) = true := by simpa using hq
      have HQ := Lib.hid hq; clear hq
      go_enter Tryd.func117, Tryd.ntmps117
      go_wp2
      go_ret
      exact ⟨ret_bool (by have := HQ.out; simp [*]), Ext_alloc _ (Ext.refl w)⟩
    · have k_kids : ((kd.length : Int) == kids) = false := by simpa using hq
      go_enter Tryd.func117, Tryd.ntmps117
      go_wp2
      go_ret
      exact ⟨ret_bool (by simp [*]), Ext_alloc _ (Ext.refl w)⟩
set_option maxHeartbeats 2000000 in
theorem iPlain0010_c (r : DRule) (Ab : Option Addr) (cb : Nat) (An : Option Addr) (cn : Nat) (At : Option Addr) (ct : Nat) (Ak : Option Addr) (ck : Nat) (kids : Int) (w : World) (hl : r.bytes.length ≤ 9223372036854775807 ∧ r.names.length ≤ 9223372036854775807 ∧ r.tags.length ≤ 9223372036854775807 ∧ r.kids.length ≤ 9223372036854775807) :
    Gives Tryd.prog 117 #[vrule r (.slice Ab r.bytes.length cb) (.slice An r.names.length cn) (.slice At r.tags.length ct) (.slice Ak r.kids.length ck), .bool false, .bool false, .bool true, .bool false, .int .i64 kids] w (.bool (plainB r false false true false kids)) := by
  obtain ⟨l1, l2, l3, l4⟩ := hl
  unfold plainB
  obtain ⟨nm, kind, size, little, bytes, names, tags, kd⟩ := r
  unfold vrule
  dsimp only at *
  cases g_size : (size == 0)
  · skip
    go_enter Tryd.func117, Tryd.ntmps117
    go_wp2
    go_ret
    exact ⟨ret_bool (by simp [*]), Ext_alloc _ (Ext.refl w)⟩
  cases g_bytes : (bytes.length == 0)
  · have k_bytes : (((bytes.length : Nat) : Int) == 0) = false := by simpa using g_bytes
    go_enter Tryd.func117, Tryd.ntmps117
    go_wp2
    go_ret
    exact ⟨ret_bool (by simp [*]), Ext_alloc _ (Ext.refl w)⟩
  have k_bytes : (((bytes.length : Nat) : Int) == 0) = true := by simpa using g_bytes
  cases g_tags : (tags.length == 0)
  · have k_tags : (((tags.length : Nat) : Int) == 0) = false := by simpa using g_tags
    go_enter Tryd.func117, Tryd.ntmps117
    go_wp2
    go_ret
    exact ⟨ret_bool (by simp [*]), Ext_alloc _ (Ext.refl w)⟩
  have k_tags : (((tags.length : Nat) : Int) == 0) = true := by simpa using g_tags
  by_cases hk : kids < 0
  · have dk : decide (kids < 0) = true := by simpa using hk
    go_enter Tryd.func117, Tryd.ntmps117
    go_wp2
    go_ret
    exact ⟨ret_bool (by simp [*]), Ext_alloc _ (Ext.refl w)⟩
  · have dk : decide (kids < 0) = false := by simpa using hk
    by_cases hq : ((kd.length : Int) = kids)
    · have k_kids : ((kd.length : Int) == kids) = true := by simpa using hq
      have HQ := Lib.hid hq; clear hq
      go_enter Tryd.func117, Tryd.ntmps117
      go_wp2
      go_ret
      exact ⟨ret_bool (by have := HQ.out; simp [*]), Ext_alloc _ (Ext.refl w)⟩
    · have k_kids : ((kd.length : Int) == kids) = false := by simpa using hq
      go_enter Tryd.func117, Tryd.ntmps117
      go_wp2
      go_ret
      exact ⟨ret_bool (by simp [*]), Ext_alloc _ (Ext.refl w)⟩
set_option maxHeartbeats 2000000 in
theorem iPlain0001_c (r : DRule) (Ab : Option Addr) (cb : Nat) (An : Option Addr) (cn : Nat) (At : Option Addr) (ct : Nat) (Ak : Option Addr) (ck : Nat) (kids : Int) (w : World) (hl : r.bytes.length ≤ 9223372036854775807 ∧ r.names.length ≤ 9223372036854775807 ∧ r.tags.length ≤ 9223372036854775807 ∧ r.kids.length ≤ 9223372036854775807) :
    Gives Tryd.prog 117 #[vrule r (.slice Ab r.bytes.length cb) (.slice An r.names.length cn) (.slice At r.tags.length ct) (.slice Ak r.kids.length ck), .bool false, .bool false, .bool false, .bool true, .int .i64 kids] w (.bool (plainB r false false false true kids)) := by
  obtain ⟨l1, l2, l3, l4⟩ := hl
  unfold plainB
  obtain ⟨nm, kind, size, little, bytes, names, tags, kd⟩ := r
  unfold vrule
  dsimp only at *
  cases g_size : (size == 0)
  · skip
    go_enter Tryd.func117, Tryd.ntmps117
    go_wp2
    go_ret
    exact ⟨ret_bool (by simp [*]), Ext_alloc _ (Ext.refl w)⟩
  cases g_bytes : (bytes.length == 0)
  · have k_bytes : (((bytes.length : Nat) : Int) == 0) = false := by simpa using g_bytes
    go_enter Tryd.func117, Tryd.ntmps117
    go_wp2
    go_ret
    exact ⟨ret_bool (by simp [*]), Ext_alloc _ (Ext.refl w)⟩
  have k_bytes : (((bytes.length : Nat) : Int) == 0) = true := by simpa using g_bytes
  cases g_names : (names.length == 0)
  · have k_names : (((names.length : Nat) : Int) == 0) = false := by simpa using g_names
    go_enter Tryd.func117, Tryd.ntmps117
    go_wp2
    go_ret
    exact ⟨ret_bool (by simp [*]), Ext_alloc _ (Ext.refl w)⟩
  have k_names : (((names.length : Nat) : Int) == 0) = true := by simpa using g_names
  by_cases hk : kids < 0
  · have dk : decide (kids < 0) = true := by simpa using hk
    go_enter Tryd.func117, Tryd.ntmps117
    go_wp2
    go_ret
    exact ⟨ret_bool (by simp [*]), Ext_alloc _ (Ext.refl w)⟩
  · have dk : decide (kids < 0) = false := by simpa using hk
    by_cases hq : ((kd.length : Int) = kids)
    · have k_kids : ((kd.length : Int) == kids) = true := by simpa using hq
      have HQ := Lib.hid hq; clear hq
      go_enter Tryd.func117, Tryd.ntmps117
      go_wp2
      go_ret
      exact ⟨ret_bool (by have := HQ.out; simp [*]), Ext_alloc _ (Ext.refl w)⟩
    · have k_kids : ((kd.length : Int) == kids) = false := by simpa using hq
      go_enter Tryd.func117, Tryd.ntmps117
      go_wp2
      go_ret
      exact ⟨ret_bool (by simp [*]), Ext_alloc _ (Ext.refl w)⟩
end Go.Proofs.YtdbbdoldndnbhaaDoor

/- The fields that a rule may have, of the reference. -/
namespace Go.Proofs.YtdbbdoldndnbhaaDoor
open Go.RowKit Go.Sort

set_option maxHeartbeats 2000000 in
theorem sShape1000_c (r : DRule) (Ab : Option Addr) (cb : Nat) (An : Option Addr) (cn : Nat) (At : Option Addr) (ct : Nat) (Ak : Option Addr) (ck : Nat) (kids : Int) (w : World) (hl : r.bytes.length ≤ 9223372036854775807 ∧ r.names.length ≤ 9223372036854775807 ∧ r.tags.length ≤ 9223372036854775807 ∧ r.kids.length ≤ 9223372036854775807) :
    Gives Tryd.prog 113 #[vrule r (.slice Ab r.bytes.length cb) (.slice An r.names.length cn) (.slice At r.tags.length ct) (.slice Ak r.kids.length ck), .bool true, .bool false, .bool false, .bool false, .int .i64 kids] w (.bool (plainB r true false false false kids && (!r.little || r.kind == 1))) := by
  obtain ⟨l1, l2, l3, l4⟩ := hl
  unfold plainB
  obtain ⟨nm, kind, size, little, bytes, names, tags, kd⟩ := r
  unfold vrule
  dsimp only at *
  cases g_bytes : (bytes.length == 0)
  · have k_bytes : (((bytes.length : Nat) : Int) == 0) = false := by simpa using g_bytes
    go_enter Tryd.func113, Tryd.ntmps113
    go_wp2
    go_ret
    exact ⟨ret_bool (by simp [*]), Ext_alloc _ (Ext.refl w)⟩
  have k_bytes : (((bytes.length : Nat) : Int) == 0) = true := by simpa using g_bytes
  cases g_names : (names.length == 0)
  · have k_names : (((names.length : Nat) : Int) == 0) = false := by simpa using g_names
    go_enter Tryd.func113, Tryd.ntmps113
    go_wp2
    go_ret
    exact ⟨ret_bool (by simp [*]), Ext_alloc _ (Ext.refl w)⟩
  have k_names : (((names.length : Nat) : Int) == 0) = true := by simpa using g_names
  cases g_tags : (tags.length == 0)
  · have k_tags : (((tags.length : Nat) : Int) == 0) = false := by simpa using g_tags
    go_enter Tryd.func113, Tryd.ntmps113
    go_wp2
    go_ret
    exact ⟨ret_bool (by simp [*]), Ext_alloc _ (Ext.refl w)⟩
  have k_tags : (((tags.length : Nat) : Int) == 0) = true := by simpa using g_tags
  by_cases hk : kids < 0
  · have dk : decide (kids < 0) = true := by simpa using hk
    cases little
    · go_enter Tryd.func113, Tryd.ntmps113
      go_wp2
      go_ret
      exact ⟨ret_bool (by simp [*]), Ext_alloc _ (Ext.refl w)⟩
    · cases g_kind : (kind == 1)
      all_goals
        go_enter Tryd.func113, Tryd.ntmps113
        go_wp2
        go_ret
        exact ⟨ret_bool (by simp [*]), Ext_alloc _ (Ext.refl w)⟩
  · have dk : decide (kids < 0) = false := by simpa using hk
    by_cases hq : ((kd.length : Int) = kids)
    · have k_kids : ((kd.length : Int) == kids) = true := by simpa using hq
      have HQ := Lib.hid hq; clear hq
      cases little
      · go_enter Tryd.func113, Tryd.ntmps113
        go_wp2
        go_ret
        exact ⟨ret_bool (by have := HQ.out; simp [*]), Ext_alloc _ (Ext.refl w)⟩
      · cases g_kind : (kind == 1)
        all_goals
          go_enter Tryd.func113, Tryd.ntmps113
          go_wp2
          go_ret
          exact ⟨ret_bool (by have := HQ.out; simp [*]), Ext_alloc _ (Ext.refl w)⟩
    · have k_kids : ((kd.length : Int) == kids) = false := by simpa using hq
      go_enter Tryd.func113, Tryd.ntmps113
      go_wp2
      go_ret
      exact ⟨ret_bool (by simp [*]), Ext_alloc _ (Ext.refl w)⟩
set_option maxHeartbeats 2000000 in
theorem sShape0100_c (r : DRule) (Ab : Option Addr) (cb : Nat) (An : Option Addr) (cn : Nat) (At : Option Addr) (ct : Nat) (Ak : Option Addr) (ck : Nat) (kids : Int) (w : World) (hl : r.bytes.length ≤ 9223372036854775807 ∧ r.names.length ≤ 9223372036854775807 ∧ r.tags.length ≤ 9223372036854775807 ∧ r.kids.length ≤ 9223372036854775807) :
    Gives Tryd.prog 113 #[vrule r (.slice Ab r.bytes.length cb) (.slice An r.names.length cn) (.slice At r.tags.length ct) (.slice Ak r.kids.length ck), .bool false, .bool true, .bool false, .bool false, .int .i64 kids] w (.bool (plainB r false true false false kids && (!r.little || r.kind == 1))) := by
  obtain ⟨l1, l2, l3, l4⟩ := hl
  unfold plainB
  obtain ⟨nm, kind, size, little, bytes, names, tags, kd⟩ := r
  unfold vrule
  dsimp only at *
  cases g_size : (size == 0)
  · skip
    go_enter Tryd.func113, Tryd.ntmps113
    go_wp2
    go_ret
    exact ⟨ret_bool (by simp [*]), Ext_alloc _ (Ext.refl w)⟩
  cases g_names : (names.length == 0)
  · have k_names : (((names.length : Nat) : Int) == 0) = false := by simpa using g_names
    go_enter Tryd.func113, Tryd.ntmps113
    go_wp2
    go_ret
    exact ⟨ret_bool (by simp [*]), Ext_alloc _ (Ext.refl w)⟩
  have k_names : (((names.length : Nat) : Int) == 0) = true := by simpa using g_names
  cases g_tags : (tags.length == 0)
  · have k_tags : (((tags.length : Nat) : Int) == 0) = false := by simpa using g_tags
    go_enter Tryd.func113, Tryd.ntmps113
    go_wp2
    go_ret
    exact ⟨ret_bool (by simp [*]), Ext_alloc _ (Ext.refl w)⟩
  have k_tags : (((tags.length : Nat) : Int) == 0) = true := by simpa using g_tags
  by_cases hk : kids < 0
  · have dk : decide (kids < 0) = true := by simpa using hk
    cases little
    · go_enter Tryd.func113, Tryd.ntmps113
      go_wp2
      go_ret
      exact ⟨ret_bool (by simp [*]), Ext_alloc _ (Ext.refl w)⟩
    · cases g_kind : (kind == 1)
      all_goals
        go_enter Tryd.func113, Tryd.ntmps113
        go_wp2
        go_ret
        exact ⟨ret_bool (by simp [*]), Ext_alloc _ (Ext.refl w)⟩
  · have dk : decide (kids < 0) = false := by simpa using hk
    by_cases hq : ((kd.length : Int) = kids)
    · have k_kids : ((kd.length : Int) == kids) = true := by simpa using hq
      have HQ := Lib.hid hq; clear hq
      cases little
      · go_enter Tryd.func113, Tryd.ntmps113
        go_wp2
        go_ret
        exact ⟨ret_bool (by have := HQ.out; simp [*]), Ext_alloc _ (Ext.refl w)⟩
      · cases g_kind : (kind == 1)
        all_goals
          go_enter Tryd.func113, Tryd.ntmps113
          go_wp2
          go_ret
          exact ⟨ret_bool (by have := HQ.out; simp [*]), Ext_alloc _ (Ext.refl w)⟩
    · have k_kids : ((kd.length : Int) == kids) = false := by simpa using hq
      go_enter Tryd.func113, Tryd.ntmps113
      go_wp2
      go_ret
      exact ⟨ret_bool (by simp [*]), Ext_alloc _ (Ext.refl w)⟩
set_option maxHeartbeats 2000000 in
theorem sShape0000_c (r : DRule) (Ab : Option Addr) (cb : Nat) (An : Option Addr) (cn : Nat) (At : Option Addr) (ct : Nat) (Ak : Option Addr) (ck : Nat) (kids : Int) (w : World) (hl : r.bytes.length ≤ 9223372036854775807 ∧ r.names.length ≤ 9223372036854775807 ∧ r.tags.length ≤ 9223372036854775807 ∧ r.kids.length ≤ 9223372036854775807) :
    Gives Tryd.prog 113 #[vrule r (.slice Ab r.bytes.length cb) (.slice An r.names.length cn) (.slice At r.tags.length ct) (.slice Ak r.kids.length ck), .bool false, .bool false, .bool false, .bool false, .int .i64 kids] w (.bool (plainB r false false false false kids && (!r.little || r.kind == 1))) := by
  obtain ⟨l1, l2, l3, l4⟩ := hl
  unfold plainB
  obtain ⟨nm, kind, size, little, bytes, names, tags, kd⟩ := r
  unfold vrule
  dsimp only at *
  cases g_size : (size == 0)
  · skip
    go_enter Tryd.func113, Tryd.ntmps113
    go_wp2
    go_ret
    exact ⟨ret_bool (by simp [*]), Ext_alloc _ (Ext.refl w)⟩
  cases g_bytes : (bytes.length == 0)
  · have k_bytes : (((bytes.length : Nat) : Int) == 0) = false := by simpa using g_bytes
    go_enter Tryd.func113, Tryd.ntmps113
    go_wp2
    go_ret
    exact ⟨ret_bool (by simp [*]), Ext_alloc _ (Ext.refl w)⟩
  have k_bytes : (((bytes.length : Nat) : Int) == 0) = true := by simpa using g_bytes
  cases g_names : (names.length == 0)
  · have k_names : (((names.length : Nat) : Int) == 0) = false := by simpa using g_names
    go_enter Tryd.func113, Tryd.ntmps113
    go_wp2
    go_ret
    exact ⟨ret_bool (by simp [*]), Ext_alloc _ (Ext.refl w)⟩
  have k_names : (((names.length : Nat) : Int) == 0) = true := by simpa using g_names
  cases g_tags : (tags.length == 0)
  · have k_tags : (((tags.length : Nat) : Int) == 0) = false := by simpa using g_tags
    go_enter Tryd.func113, Tryd.ntmps113
    go_wp2
    go_ret
    exact ⟨ret_bool (by simp [*]), Ext_alloc _ (Ext.refl w)⟩
  have k_tags : (((tags.length : Nat) : Int) == 0) = true := by simpa using g_tags
  by_cases hk : kids < 0
  · have dk : decide (kids < 0) = true := by simpa using hk
    cases little
    · go_enter Tryd.func113, Tryd.ntmps113
      go_wp2
      go_ret
      exact ⟨ret_bool (by simp [*]), Ext_alloc _ (Ext.refl w)⟩
    · cases g_kind : (kind == 1)
      all_goals
        go_enter Tryd.func113, Tryd.ntmps113
        go_wp2
        go_ret
        exact ⟨ret_bool (by simp [*]), Ext_alloc _ (Ext.refl w)⟩
  · have dk : decide (kids < 0) = false := by simpa using hk
    by_cases hq : ((kd.length : Int) = kids)
    · have k_kids : ((kd.length : Int) == kids) = true := by simpa using hq
      have HQ := Lib.hid hq; clear hq
      cases little
      · go_enter Tryd.func113, Tryd.ntmps113
        go_wp2
        go_ret
        exact ⟨ret_bool (by have := HQ.out; simp [*]), Ext_alloc _ (Ext.refl w)⟩
      · cases g_kind : (kind == 1)
        all_goals
          go_enter Tryd.func113, Tryd.ntmps113
          go_wp2
          go_ret
          exact ⟨ret_bool (by have := HQ.out; simp [*]), Ext_alloc _ (Ext.refl w)⟩
    · have k_kids : ((kd.length : Int) == kids) = false := by simpa using hq
      go_enter Tryd.func113, Tryd.ntmps113
      go_wp2
      go_ret
      exact ⟨ret_bool (by simp [*]), Ext_alloc _ (Ext.refl w)⟩
set_option maxHeartbeats 2000000 in
theorem sShape0010_c (r : DRule) (Ab : Option Addr) (cb : Nat) (An : Option Addr) (cn : Nat) (At : Option Addr) (ct : Nat) (Ak : Option Addr) (ck : Nat) (kids : Int) (w : World) (hl : r.bytes.length ≤ 9223372036854775807 ∧ r.names.length ≤ 9223372036854775807 ∧ r.tags.length ≤ 9223372036854775807 ∧ r.kids.length ≤ 9223372036854775807) :
    Gives Tryd.prog 113 #[vrule r (.slice Ab r.bytes.length cb) (.slice An r.names.length cn) (.slice At r.tags.length ct) (.slice Ak r.kids.length ck), .bool false, .bool false, .bool true, .bool false, .int .i64 kids] w (.bool (plainB r false false true false kids && (!r.little || r.kind == 1))) := by
  obtain ⟨l1, l2, l3, l4⟩ := hl
  unfold plainB
  obtain ⟨nm, kind, size, little, bytes, names, tags, kd⟩ := r
  unfold vrule
  dsimp only at *
  cases g_size : (size == 0)
  · skip
    go_enter Tryd.func113, Tryd.ntmps113
    go_wp2
    go_ret
    exact ⟨ret_bool (by simp [*]), Ext_alloc _ (Ext.refl w)⟩
  cases g_bytes : (bytes.length == 0)
  · have k_bytes : (((bytes.length : Nat) : Int) == 0) = false := by simpa using g_bytes
    go_enter Tryd.func113, Tryd.ntmps113
    go_wp2
    go_ret
    exact ⟨ret_bool (by simp [*]), Ext_alloc _ (Ext.refl w)⟩
  have k_bytes : (((bytes.length : Nat) : Int) == 0) = true := by simpa using g_bytes
  cases g_tags : (tags.length == 0)
  · have k_tags : (((tags.length : Nat) : Int) == 0) = false := by simpa using g_tags
    go_enter Tryd.func113, Tryd.ntmps113
    go_wp2
    go_ret
    exact ⟨ret_bool (by simp [*]), Ext_alloc _ (Ext.refl w)⟩
  have k_tags : (((tags.length : Nat) : Int) == 0) = true := by simpa using g_tags
  by_cases hk : kids < 0
  · have dk : decide (kids < 0) = true := by simpa using hk
    cases little
    · go_enter Tryd.func113, Tryd.ntmps113
      go_wp2
      go_ret
      exact ⟨ret_bool (by simp [*]), Ext_alloc _ (Ext.refl w)⟩
    · cases g_kind : (kind == 1)
      all_goals
        go_enter Tryd.func113, Tryd.ntmps113
        go_wp2
        go_ret
        exact ⟨ret_bool (by simp [*]), Ext_alloc _ (Ext.refl w)⟩
  · have dk : decide (kids < 0) = false := by simpa using hk
    by_cases hq : ((kd.length : Int) = kids)
    · have k_kids : ((kd.length : Int) == kids) = true := by simpa using hq
      have HQ := Lib.hid hq; clear hq
      cases little
      · go_enter Tryd.func113, Tryd.ntmps113
        go_wp2
        go_ret
        exact ⟨ret_bool (by have := HQ.out; simp [*]), Ext_alloc _ (Ext.refl w)⟩
      · cases g_kind : (kind == 1)
        all_goals
          go_enter Tryd.func113, Tryd.ntmps113
          go_wp2
          go_ret
          exact ⟨ret_bool (by have := HQ.out; simp [*]), Ext_alloc _ (Ext.refl w)⟩
    · have k_kids : ((kd.length : Int) == kids) = false := by simpa using hq
      go_enter Tryd.func113, Tryd.ntmps113
      go_wp2
      go_ret
      exact ⟨ret_bool (by simp [*]), Ext_alloc _ (Ext.refl w)⟩
set_option maxHeartbeats 2000000 in
theorem sShape0001_c (r : DRule) (Ab : Option Addr) (cb : Nat) (An : Option Addr) (cn : Nat) (At : Option Addr) (ct : Nat) (Ak : Option Addr) (ck : Nat) (kids : Int) (w : World) (hl : r.bytes.length ≤ 9223372036854775807 ∧ r.names.length ≤ 9223372036854775807 ∧ r.tags.length ≤ 9223372036854775807 ∧ r.kids.length ≤ 9223372036854775807) :
    Gives Tryd.prog 113 #[vrule r (.slice Ab r.bytes.length cb) (.slice An r.names.length cn) (.slice At r.tags.length ct) (.slice Ak r.kids.length ck), .bool false, .bool false, .bool false, .bool true, .int .i64 kids] w (.bool (plainB r false false false true kids && (!r.little || r.kind == 1))) := by
  obtain ⟨l1, l2, l3, l4⟩ := hl
  unfold plainB
  obtain ⟨nm, kind, size, little, bytes, names, tags, kd⟩ := r
  unfold vrule
  dsimp only at *
  cases g_size : (size == 0)
  · skip
    go_enter Tryd.func113, Tryd.ntmps113
    go_wp2
    go_ret
    exact ⟨ret_bool (by simp [*]), Ext_alloc _ (Ext.refl w)⟩
  cases g_bytes : (bytes.length == 0)
  · have k_bytes : (((bytes.length : Nat) : Int) == 0) = false := by simpa using g_bytes
    go_enter Tryd.func113, Tryd.ntmps113
    go_wp2
    go_ret
    exact ⟨ret_bool (by simp [*]), Ext_alloc _ (Ext.refl w)⟩
  have k_bytes : (((bytes.length : Nat) : Int) == 0) = true := by simpa using g_bytes
  cases g_names : (names.length == 0)
  · have k_names : (((names.length : Nat) : Int) == 0) = false := by simpa using g_names
    go_enter Tryd.func113, Tryd.ntmps113
    go_wp2
    go_ret
    exact ⟨ret_bool (by simp [*]), Ext_alloc _ (Ext.refl w)⟩
  have k_names : (((names.length : Nat) : Int) == 0) = true := by simpa using g_names
  by_cases hk : kids < 0
  · have dk : decide (kids < 0) = true := by simpa using hk
    cases little
    · go_enter Tryd.func113, Tryd.ntmps113
      go_wp2
      go_ret
      exact ⟨ret_bool (by simp [*]), Ext_alloc _ (Ext.refl w)⟩
    · cases g_kind : (kind == 1)
      all_goals
        go_enter Tryd.func113, Tryd.ntmps113
        go_wp2
        go_ret
        exact ⟨ret_bool (by simp [*]), Ext_alloc _ (Ext.refl w)⟩
  · have dk : decide (kids < 0) = false := by simpa using hk
    by_cases hq : ((kd.length : Int) = kids)
    · have k_kids : ((kd.length : Int) == kids) = true := by simpa using hq
      have HQ := Lib.hid hq; clear hq
      cases little
      · go_enter Tryd.func113, Tryd.ntmps113
        go_wp2
        go_ret
        exact ⟨ret_bool (by have := HQ.out; simp [*]), Ext_alloc _ (Ext.refl w)⟩
      · cases g_kind : (kind == 1)
        all_goals
          go_enter Tryd.func113, Tryd.ntmps113
          go_wp2
          go_ret
          exact ⟨ret_bool (by have := HQ.out; simp [*]), Ext_alloc _ (Ext.refl w)⟩
    · have k_kids : ((kd.length : Int) == kids) = false := by simpa using hq
      go_enter Tryd.func113, Tryd.ntmps113
      go_wp2
      go_ret
      exact ⟨ret_bool (by simp [*]), Ext_alloc _ (Ext.refl w)⟩
end Go.Proofs.YtdbbdoldndnbhaaDoor

/- Sequences and choices. -/
namespace Go.Proofs.YtdbbdoldndnbhaaDoor
open Go.RowKit Go.Sort

theorem RdS.lens {w : World} {r : DRule} {Ab : Option Addr} {cb : Nat} {An : Option Addr} {cn : Nat} {At : Option Addr} {ct : Nat} {Ak : Option Addr} {ck : Nat} (h : RdS w r Ab cb An cn At ct Ak ck) :
    r.bytes.length ≤ 9223372036854775807 ∧ r.names.length ≤ 9223372036854775807 ∧ r.tags.length ≤ 9223372036854775807 ∧ r.kids.length ≤ 9223372036854775807 := ⟨h.b.len, h.n.len, h.t.len, h.k.len⟩
theorem Rd0.take {α : Type} {f : α → Value} {w : World} {A : Option Addr} {l : List α} {c : Nat} (h : Rd0 f w A l c) (n : Nat) (hn : n ≤ l.length) : Rd0 f w A (l.take n) c := by
  have hl : (l.take n).length = n := by simp; omega
  refine ⟨by have := h.cap; omega, by have := h.len; omega, fun hp => ?_⟩
  obtain ⟨b, off, h1, h2, h3⟩ := h.2.2 (by omega)
  refine ⟨b, off, h1, h2, fun w' e i hi => ?_⟩
  rw [h3 w' e i (by omega)]
  simp
theorem nameOk_at {l : List ByteArray} {k : Nat} (h : k < l.length) : nameOk l k = (isName l[k] && !hasNm (l.take k) l[k]) := by
  unfold nameOk; rw [List.getElem?_eq_getElem h]
theorem tagOk_at {lim : Int} {l : List Int} {k : Nat} (h : k < l.length) : tagOk lim l k = (between l[k] 0 lim && (k == 0 || decide (l.getD (k - 1) 0 < l[k]))) := by
  unfold tagOk; rw [List.getElem?_eq_getElem h]
/-- the names of a sequence, of the reference -/
def namesB (l : List ByteArray) : Bool := between l.length 1 8 && allN l.length (nameOk l)
set_option maxRecDepth 100000 in
set_option maxHeartbeats 2000000 in
theorem sNames_c (A : Option Addr) (l : List ByteArray) (c : Nat) (w : World) (h : Rd0 vstr w A l c) (hw : ∀ s ∈ l, s.size ≤ 9223372036854775807) :
    Gives Tryd.prog 115 #[.slice A l.length c] w (.bool (namesB l)) := by
  have hl := h.len
  have hcap := h.cap
  go_enter Tryd.func115, Tryd.ntmps115
  go_wp2
  go_loopw [3] (fun i wr => ∃ k : Nat, k ≤ l.length ∧ i = .int .i64 k ∧ Hid (∀ j, j < k → nameOk l j = true) ∧ Ext w wr) (fun i _ => l.length - (intOf i).toNat)
  case atStart => exact ⟨0, by omega, rfl, (fun j hj => by omega), Ext.refl _⟩
  case round =>
    obtain ⟨k, hk, rfl, ht, he⟩ := hrel
    by_cases hlt : k < l.length
    · obtain ⟨b, off, hA, hb, hc⟩ := h.at k hlt
      have HT := h.take k (by omega)
      have HN := Lib.hid (nameOk_at hlt)
      have NO : Hid (nameOk l k = false → namesB l = false) := fun hf => by unfold namesB; rw [allN_no hlt hf, Bool.and_false]
      have YES : Hid (nameOk l k = true → ∀ j, j < k + 1 → nameOk l j = true) := upTo ht.out
      have CN := Lib.hid (fun w => sIsName_c l[k] w (hw _ (List.getElem_mem hlt)))
      have hlk : (l.take k).length = k := by simp; omega
      have CC : Hid (∀ w' s, Ext w w' → Gives Tryd.prog 129 #[.slice A k c, .string s] w' (.bool (hasNm (l.take k) s))) := fun w' s e => by
        have := sContains_c A (l.take k) c s w' (HT.ext e)
        rwa [hlk] at this
      subst hA
      generalize l[k] = x at *
      generalize isName x = q1 at *
      have hc0 : (0 : Int) ≤ (k : Int) := by omega
      have hc1 : (k : Int) ≤ (c : Int) := by omega
      clear HT h hlk
      cases q1
      · have HR : Hid (nameOk l k = false) := by show _ = _; rw [HN.out]; rfl
        have HE := Lib.hid (NO.out HR.out)
        clear NO YES HN HR
        go_wp2_with fail
        refine wp_region_quiet_below (by kernel_rfl) (by kernel_rfl) ?_
        repeat (go_big_quiet_step ((go_at_call 69; exact Calls.regrown_of (CN.out _))))
        refine wpQuiet_nil ?_
        rintro w1 ⟨⟨nq, osq⟩, hq⟩
        have ew1 := ext_of_q hq
        clear hq nq osq
        go_wp2
        go_ret
        exact ⟨ret_bool HE.out.symm, he.trans ew1⟩
      · have CD := Lib.hid (fun w' e => CC.out w' x e)
        generalize hasNm (l.take k) x = q2 at *
        cases q2
        · have HR : Hid (nameOk l k = true) := by show _ = _; rw [HN.out]; rfl
          have HE := Lib.hid (YES.out HR.out)
          clear NO YES HN HR CC
          go_wp2_with fail
          refine wp_region_quiet_below (by kernel_rfl) (by kernel_rfl) ?_
          repeat (go_big_quiet_step ((first | (go_at_call 69; exact Calls.regrown_of (CN.out _)) | (go_at_call 129; exact Calls.regrown_of (CD.out _ (by first | assumption | exact Ext_regrown _ _ he))))))
          refine wpQuiet_nil ?_
          rintro w1 ⟨⟨nq, osq⟩, hq⟩
          have ew1 := ext_of_q hq
          clear hq nq osq
          go_wp2
          go_roundw
          case rel => exact ⟨k+1, by omega, by go_num, HE.out, he.trans ew1⟩
          case measure => simp [intOf]; omega
        · have HR : Hid (nameOk l k = false) := by show _ = _; rw [HN.out]; rfl
          have HE := Lib.hid (NO.out HR.out)
          clear NO YES HN HR CC
          go_wp2_with fail
          refine wp_region_quiet_below (by kernel_rfl) (by kernel_rfl) ?_
          repeat (go_big_quiet_step ((first | (go_at_call 69; exact Calls.regrown_of (CN.out _)) | (go_at_call 129; exact Calls.regrown_of (CD.out _ (by first | assumption | exact Ext_regrown _ _ he))))))
          refine wpQuiet_nil ?_
          rintro w1 ⟨⟨nq, osq⟩, hq⟩
          have ew1 := ext_of_q hq
          clear hq nq osq
          go_wp2
          go_ret
          exact ⟨ret_bool HE.out.symm, he.trans ew1⟩
    · have HE : Hid (namesB l = (decide ((1 : Int) ≤ (l.length : Int)) && decide ((l.length : Int) ≤ 8))) := by
        show _ = _; unfold namesB between; rw [allN_yes (fun j hj => ht.out j (by omega)), Bool.and_true]
      go_wp2_with (go_at_call 54; refine (l1In_c _ _ _ _).mono ?_; rintro _ w1 ⟨rfl, he1⟩)
      go_ret
      exact ⟨ret_bool HE.out.symm, he.trans he1⟩
set_option maxRecDepth 100000 in
set_option maxHeartbeats 4000000 in
theorem iSeq_c (r : DRule) (Ab : Option Addr) (cb : Nat) (An : Option Addr) (cn : Nat) (At : Option Addr) (ct : Nat) (Ak : Option Addr) (ck : Nat) (w : World) (h : RdS w r Ab cb An cn At ct Ak ck) (hw : WfR r) :
    Gives Tryd.prog 119 #[vrule r (.slice Ab r.bytes.length cb) (.slice An r.names.length cn) (.slice At r.tags.length ct) (.slice Ak r.kids.length ck)] w (.bool (seqOk r)) := by
  have eb := Ext_alloc (.cells #[.string r.nm, .int .i64 r.kind, .int .i64 r.size, .bool r.little, .slice Ab r.bytes.length cb, .slice An r.names.length cn, .slice At r.tags.length ct, .slice Ak r.kids.length ck] 69) (Ext.refl w)
  have B := fun w' (e : Ext (w.alloc (.cells #[.string r.nm, .int .i64 r.kind, .int .i64 r.size, .bool r.little, .slice Ab r.bytes.length cb, .slice An r.names.length cn, .slice At r.tags.length ct, .slice Ak r.kids.length ck] 69)) w') => boxed e
  have CP := Lib.hid (fun w => iPlain0010_c r Ab cb An cn At ct Ak ck (-1) w h.lens)
  obtain ⟨hl1, hl2, hl3, hl4⟩ := h.lens
  have hN := h.n
  have hcap := hN.cap
  have hwn := Lib.hid hw.names
  clear h hw
  unfold seqOk
  generalize plainB r false false true false (-1) = p at *
  unfold vrule at *
  cases p
  · go_enter Tryd.func119, Tryd.ntmps119
    go_wp2_with fail
    refine (CP.out _).mono ?_; rintro _ w1 ⟨rfl, he1⟩
    go_wp2
    go_ret
    exact ⟨ret_bool (by simp), eb.trans he1⟩
  by_cases hlen : r.kids.length = r.names.length
  · have CI := Lib.hid (fun w => iInRange_c (r.kids.length : Int) 1 8 w)
    have HB : Hid (between r.kids.length 1 8 = (decide ((1 : Int) ≤ (r.kids.length : Int)) && decide ((r.kids.length : Int) ≤ 8))) := rfl
    have g1 : ((r.kids.length : Int) != (r.names.length : Int)) = false := by simp [hlen]
    have g2 : (r.kids.length == r.names.length) = true := by simp [hlen]
    rw [← HB.out] at CI
    rw [g2]
    clear hlen g2 HB
    generalize between r.kids.length 1 8 = p2 at *
    cases p2
    · go_enter Tryd.func119, Tryd.ntmps119
      go_wp2_with fail
      refine (CP.out _).mono ?_; rintro _ w1 ⟨rfl, he1⟩
      go_wp2_with fail
      refine (CI.out _).mono ?_; rintro _ w2 ⟨rfl, he2⟩
      go_wp2
      go_ret
      exact ⟨ret_bool (by simp), eb.trans (he1.trans he2)⟩
    · go_enter Tryd.func119, Tryd.ntmps119
      go_wp2_with fail
      refine (CP.out _).mono ?_; rintro _ w1 ⟨rfl, he1⟩
      go_wp2_with fail
      refine (CI.out _).mono ?_; rintro _ w2 ⟨rfl, he2⟩
      have e2 := he1.trans he2
      clear he1 he2 g1 CP CI
      go_wp2
      go_loopw [27] (fun i wr => ∃ k : Nat, k ≤ r.names.length ∧ i = .int .i64 k ∧ Hid (∀ j, j < k → nameOk r.names j = true) ∧ Ext (w.alloc (.cells #[.string r.nm, .int .i64 r.kind, .int .i64 r.size, .bool r.little, .slice Ab r.bytes.length cb, .slice An r.names.length cn, .slice At r.tags.length ct, .slice Ak r.kids.length ck] 69)) wr) (fun i _ => r.names.length - (intOf i).toNat)
      case atStart => exact ⟨0, by omega, rfl, (fun j hj => by omega), e2⟩
      case round =>
        clear e2
        obtain ⟨k, hk, rfl, ht, he⟩ := hrel
        by_cases hlt : k < r.names.length
        · have HT := hN.take k (by omega)
          have HNm := Lib.hid (nameOk_at hlt)
          have NO : Hid (nameOk r.names k = false → allN r.names.length (nameOk r.names) = false) := fun hf => allN_no hlt hf
          have YES : Hid (nameOk r.names k = true → ∀ j, j < k + 1 → nameOk r.names j = true) := upTo ht.out
          have CN := Lib.hid (fun w => iIsName_c r.names[k] w (hwn.out _ (List.getElem_mem hlt)))
          have hlk : (r.names.take k).length = k := by simp; omega
          have CC : Hid (∀ w' s, Ext w w' → Gives Tryd.prog 130 #[.slice An k cn, .string s] w' (.bool (hasNm (r.names.take k) s))) := fun w' s e => by
            have := iContains_c An (r.names.take k) cn s w' (HT.ext e)
            rwa [hlk] at this
          obtain ⟨b, off, rfl, hb, hc⟩ := hN.at k hlt
          have hcw := fun w' (e : Ext _ w') => hc w' (eb.trans e)
          generalize r.names[k] = x at *
          generalize isName x = q1 at *
          have hc0 : (0 : Int) ≤ (k : Int) := by omega
          have hc1 : (k : Int) ≤ (cn : Int) := by omega
          clear HT hlk hc hN
          cases q1
          · have HR : Hid (nameOk r.names k = false) := by show _ = _; rw [HNm.out]; rfl
            have HE := Lib.hid (NO.out HR.out)
            clear NO YES HNm HR
            go_wp2_with fail
            refine (CN.out _).mono ?_; rintro _ w3 ⟨rfl, he3⟩
            go_wp2
            go_ret
            exact ⟨ret_bool (by rw [HE.out]; simp), eb.trans (he.trans he3)⟩
          · have CD := Lib.hid (fun w' e => CC.out w' x e)
            generalize hasNm (r.names.take k) x = q2 at *
            cases q2
            · have HR : Hid (nameOk r.names k = true) := by show _ = _; rw [HNm.out]; rfl
              have HE := Lib.hid (YES.out HR.out)
              clear NO YES HNm HR CC
              go_wp2_with fail
              refine (CN.out _).mono ?_; rintro _ w3 ⟨rfl, he3⟩
              have e3 := he.trans he3
              go_wp2_with fail
              refine (CD.out _ (eb.trans e3)).mono ?_; rintro _ w4 ⟨rfl, he4⟩
              go_wp2
              go_roundw
              case rel => exact ⟨k+1, by omega, by go_num, HE.out, e3.trans he4⟩
              case measure => simp [intOf]; omega
            · have HR : Hid (nameOk r.names k = false) := by show _ = _; rw [HNm.out]; rfl
              have HE := Lib.hid (NO.out HR.out)
              clear NO YES HNm HR CC
              go_wp2_with fail
              refine (CN.out _).mono ?_; rintro _ w3 ⟨rfl, he3⟩
              have e3 := he.trans he3
              go_wp2_with fail
              refine (CD.out _ (eb.trans e3)).mono ?_; rintro _ w4 ⟨rfl, he4⟩
              go_wp2
              go_ret
              exact ⟨ret_bool (by rw [HE.out]; simp), eb.trans (e3.trans he4)⟩
        · have HE : Hid (allN r.names.length (nameOk r.names) = true) := allN_yes (fun j hj => ht.out j (by omega))
          go_wp2
          go_ret
          exact ⟨ret_bool (by rw [HE.out]; simp), eb.trans he⟩
  · have g1 : ((r.kids.length : Int) != (r.names.length : Int)) = true := by simp; omega
    have g2 : (r.kids.length == r.names.length) = false := by simpa using hlen
    rw [g2]
    clear hlen g2
    go_enter Tryd.func119, Tryd.ntmps119
    go_wp2_with fail
    refine (CP.out _).mono ?_; rintro _ w1 ⟨rfl, he1⟩
    go_wp2
    go_ret
    exact ⟨ret_bool (by simp), eb.trans he1⟩
/-- the tags of a choice, of the reference -/
def tagsB (ds : List DRule) (r : DRule) : Bool := r.kids.length == r.tags.length + 1 && between r.tags.length 1 8 && allN r.tags.length (tagOk (limD ds (r.kids.getD 0 0)) r.tags)
theorem tagOk_zero {lim : Int} {l : List Int} {k : Nat} (h : k < l.length) (hz : k = 0) : tagOk lim l k = between l[k] 0 lim := by rw [tagOk_at h]; simp [hz]
theorem tagOk_succ {lim : Int} {l : List Int} {m : Nat} (h : m + 1 < l.length) : tagOk lim l (m + 1) = (between l[m + 1] 0 lim && !decide (l[m + 1] ≤ l[m])) := by
  rw [tagOk_at h]
  have : l.getD (m + 1 - 1) 0 = l[m] := by simp [List.getD_eq_getElem?_getD, List.getElem?_eq_getElem (show m < l.length by omega)]
  rw [this]
  by_cases h2 : l[m] < l[m + 1]
  · rw [decide_eq_true h2, decide_eq_false (show ¬ l[m + 1] ≤ l[m] by omega)]; simp
  · rw [decide_eq_false h2, decide_eq_true (show l[m + 1] ≤ l[m] by omega)]; simp
theorem wrap_back (m : Nat) (h : m ≤ 9223372036854775807) : IntKind.i64.wrap ((m : Int) + 1 - 1) = (m : Int) := by
  rw [show (m : Int) + 1 - 1 = (m : Int) by omega]; exact IntWalk.i64_in _ (by omega)
set_option maxRecDepth 100000 in
set_option maxHeartbeats 4000000 in
theorem sTags_c (A : Option Addr) (ds : List DRule) (c : Nat) (r : DRule) (Ab : Option Addr) (cb : Nat) (An : Option Addr) (cn : Nat) (At : Option Addr) (ct : Nat) (Ak : Option Addr) (ck : Nat) (w : World) (hd : RdD w A ds c) (h : RdS w r Ab cb An cn At ct Ak ck) (hs : ShortR r) :
    Gives Tryd.prog 116 #[vdesc (.slice A ds.length c), vrule r (.slice Ab r.bytes.length cb) (.slice An r.names.length cn) (.slice At r.tags.length ct) (.slice Ak r.kids.length ck)] w (.bool (tagsB ds r)) := by
  have eb := Ext_alloc (.cells #[.string r.nm, .int .i64 r.kind, .int .i64 r.size, .bool r.little, .slice Ab r.bytes.length cb, .slice An r.names.length cn, .slice At r.tags.length ct, .slice Ak r.kids.length ck] 69) (Ext_alloc (.cells #[.slice A ds.length c] 30) (Ext.refl w))
  have BX := fun w' (e : Ext ((w.alloc (.cells #[.slice A ds.length c] 30)).alloc (.cells #[.string r.nm, .int .i64 r.kind, .int .i64 r.size, .bool r.little, .slice Ab r.bytes.length cb, .slice An r.names.length cn, .slice At r.tags.length ct, .slice Ak r.kids.length ck] 69)) w') => boxed2 e
  have B0 := fun w' e => (BX w' e).1
  have B1 := fun w' e => (BX w' e).2.1
  clear BX
  obtain ⟨hl1, hl2, hl3, hl4⟩ := hs
  have hT := h.t; have hK := h.k
  clear h
  unfold vrule vdesc at *
  unfold tagsB
  by_cases hlen : r.kids.length = r.tags.length + 1
  · have g1 : ((r.kids.length : Int) != (r.tags.length : Int) + 1) = false := by simp; omega
    have g2 : (r.kids.length == r.tags.length + 1) = true := by simpa using hlen
    rw [g2]
    have CI := Lib.hid (fun w => l1In_c (r.tags.length : Int) 1 8 w)
    have HB : Hid (between r.tags.length 1 8 = (decide ((1 : Int) ≤ (r.tags.length : Int)) && decide ((r.tags.length : Int) ≤ 8))) := rfl
    rw [← HB.out] at CI
    have HLEN := Lib.hid hlen
    clear g2 HB hlen
    generalize between r.tags.length 1 8 = p2 at *
    cases p2
    · go_enter Tryd.func116, Tryd.ntmps116
      go_wp2_with fail
      refine (CI.out _).mono ?_; rintro _ w2 ⟨rfl, he2⟩
      go_wp2
      go_ret
      exact ⟨ret_bool (by simp), eb.trans he2⟩
    · have hk0 : 0 < r.kids.length := by have := HLEN.out; omega
      obtain ⟨bk, ok, rfl, hbk, hck⟩ := hK.at 0 hk0
      have HG : Hid (r.kids.getD 0 0 = r.kids[0]) := by show _ = _; simp [List.getD_eq_getElem?_getD, List.getElem?_eq_getElem hk0]
      rw [HG.out]
      rw [Nat.add_zero] at hck
      generalize r.kids[0] = kid at *
      have CL := Lib.hid (fun w h => sLimit_c A ds c kid w h)
      unfold vdesc at CL
      generalize limD ds kid = lim at *
      have hck' := fun w' (e : Ext _ w') => hck w' (eb.trans e)
      clear hck hK HG
      go_enter Tryd.func116, Tryd.ntmps116
      go_wp2_with fail
      refine (CI.out _).mono ?_; rintro _ w2 ⟨rfl, he2⟩
      clear CI g1
      go_wp2
      go_loopw [5] (fun i wr => ∃ k : Nat, k ≤ r.tags.length ∧ i = .int .i64 k ∧ Hid (∀ j, j < k → tagOk lim r.tags j = true) ∧ Ext _ wr) (fun i _ => r.tags.length - (intOf i).toNat)
      case atStart => exact ⟨0, by omega, rfl, (fun j hj => by omega), he2⟩
      case round =>
        clear he2
        obtain ⟨k, hk, rfl, ht, he⟩ := hrel
        by_cases hlt : k < r.tags.length
        · obtain ⟨b, off, rfl, hb, hc⟩ := hT.at k hlt
          have hc' := fun w' (e : Ext _ w') => hc w' (eb.trans e)
          have NO : Hid (tagOk lim r.tags k = false → allN r.tags.length (tagOk lim r.tags) = false) := fun hf => allN_no hlt hf
          have YES : Hid (tagOk lim r.tags k = true → ∀ j, j < k + 1 → tagOk lim r.tags j = true) := upTo ht.out
          have CB := Lib.hid (fun w => l1In_c r.tags[k] 0 lim w)
          have HB : Hid (between r.tags[k] 0 lim = (decide ((0 : Int) ≤ r.tags[k]) && decide (r.tags[k] ≤ lim))) := rfl
          rw [← HB.out] at CB
          clear HB
          rcases Nat.eq_zero_or_pos k with hz | hpos
          · have HN := Lib.hid (tagOk_zero (lim := lim) hlt hz)
            have d1 : decide ((0 : Int) < (k : Int)) = false := by simp; omega
            have d2 : decide (0 < k) = false := by simp; omega
            clear hz
            generalize r.tags[k] = x at *
            generalize between x 0 lim = q1 at *
            clear hc hT ht
            cases q1
            · have HE := Lib.hid (NO.out HN.out); clear NO YES HN
              go_wp2_with fail
              refine wp_region_quiet_below (by kernel_rfl) (by kernel_rfl) ?_
              repeat (go_big_quiet_step ((first | (go_at_call 114; exact Calls.regrown_of (CL.out _ (hd.ext (eb.trans (by first | assumption | exact Ext_regrown _ _ he))))) | (go_at_call 54; exact Calls.regrown_of (CB.out _)))))
              refine wpQuiet_nil ?_
              rintro w1 ⟨⟨nq, osq⟩, hq⟩
              have ew1 := ext_of_q hq
              clear hq nq osq
              go_wp2
              go_ret
              exact ⟨ret_bool (by rw [HE.out]; simp), eb.trans (he.trans ew1)⟩
            · have HE := Lib.hid (YES.out HN.out); clear NO YES HN
              go_wp2_with fail
              refine wp_region_quiet_below (by kernel_rfl) (by kernel_rfl) ?_
              repeat (go_big_quiet_step ((first | (go_at_call 114; exact Calls.regrown_of (CL.out _ (hd.ext (eb.trans (by first | assumption | exact Ext_regrown _ _ he))))) | (go_at_call 54; exact Calls.regrown_of (CB.out _)))))
              refine wpQuiet_nil ?_
              rintro w1 ⟨⟨nq, osq⟩, hq⟩
              have ew1 := ext_of_q hq
              clear hq nq osq
              go_wp2
              go_roundw
              case rel => exact ⟨k+1, by omega, by go_num, HE.out, he.trans ew1⟩
              case measure => simp [intOf]; omega
          · obtain ⟨m, rfl⟩ : ∃ m, k = m + 1 := ⟨k - 1, by omega⟩
            have HN := Lib.hid (tagOk_succ (lim := lim) hlt)
            obtain ⟨b', off', hh, _, hcm⟩ := hT.at m (by omega)
            obtain ⟨rfl, rfl⟩ : b = b' ∧ off = off' := by injection hh with hh; injection hh with h1 h2; exact ⟨h1, h2⟩
            have hcm' := fun w' (e : Ext _ w') => hcm w' (eb.trans e)
            have hwm := wrap_back m (by omega)
            generalize r.tags[m + 1] = x at *
            generalize r.tags[m] = y at *
            generalize between x 0 lim = q1 at *
            clear hc hT ht hcm hh
            cases q1
            · have HE := Lib.hid (NO.out (HN.out.trans (by simp))); clear NO YES HN
              go_wp2_with fail
              refine wp_region_quiet_below (by kernel_rfl) (by kernel_rfl) ?_
              repeat (go_big_quiet_step ((first | (go_at_call 114; exact Calls.regrown_of (CL.out _ (hd.ext (eb.trans (by first | assumption | exact Ext_regrown _ _ he))))) | (go_at_call 54; exact Calls.regrown_of (CB.out _)))))
              refine wpQuiet_nil ?_
              rintro w1 ⟨⟨nq, osq⟩, hq⟩
              have ew1 := ext_of_q hq
              clear hq nq osq
              go_wp2
              go_ret
              exact ⟨ret_bool (by rw [HE.out]; simp), eb.trans (he.trans ew1)⟩
            · cases hq : decide (x ≤ y)
              · have HE := Lib.hid (YES.out (HN.out.trans (by rw [hq]; simp))); clear NO YES HN
                go_wp2_with fail
                refine wp_region_quiet_below (by kernel_rfl) (by kernel_rfl) ?_
                repeat (go_big_quiet_step ((first | (go_at_call 114; exact Calls.regrown_of (CL.out _ (hd.ext (eb.trans (by first | assumption | exact Ext_regrown _ _ he))))) | (go_at_call 54; exact Calls.regrown_of (CB.out _)))))
                refine wpQuiet_nil ?_
                rintro w1 ⟨⟨nq, osq⟩, hq⟩
                have ew1 := ext_of_q hq
                clear hq nq osq
                go_wp2
                go_roundw
                case rel => exact ⟨m+2, by omega, by go_num, HE.out, he.trans ew1⟩
                case measure => simp [intOf]; omega
              · have HE := Lib.hid (NO.out (HN.out.trans (by rw [hq]; simp))); clear NO YES HN
                go_wp2_with fail
                refine wp_region_quiet_below (by kernel_rfl) (by kernel_rfl) ?_
                repeat (go_big_quiet_step ((first | (go_at_call 114; exact Calls.regrown_of (CL.out _ (hd.ext (eb.trans (by first | assumption | exact Ext_regrown _ _ he))))) | (go_at_call 54; exact Calls.regrown_of (CB.out _)))))
                refine wpQuiet_nil ?_
                rintro w1 ⟨⟨nq, osq⟩, hq⟩
                have ew1 := ext_of_q hq
                clear hq nq osq
                go_wp2
                go_ret
                exact ⟨ret_bool (by rw [HE.out]; simp), eb.trans (he.trans ew1)⟩
        · have HE : Hid (allN r.tags.length (tagOk lim r.tags) = true) := allN_yes (fun j hj => ht.out j (by omega))
          go_wp2
          go_ret
          exact ⟨ret_bool (by rw [HE.out]; simp), eb.trans he⟩
  · have g1 : ((r.kids.length : Int) != (r.tags.length : Int) + 1) = true := by simp; omega
    have g2 : (r.kids.length == r.tags.length + 1) = false := by simpa using hlen
    rw [g2]
    clear hlen g2
    go_enter Tryd.func116, Tryd.ntmps116
    go_wp2
    go_ret
    exact ⟨ret_bool (by simp), eb⟩
theorem plainB_kids {r : DRule} {a b c d : Bool} {k : Nat} (h : plainB r a b c d (k : Int) = true) : r.kids.length = k := by
  unfold plainB at h
  simp only [Bool.and_eq_true, Bool.or_eq_true, decide_eq_true_eq] at h
  omega
theorem lim_pos {lim : Int} (hl : lim = -1 ∨ lim = 255 ∨ lim = 65535 ∨ lim = 16777215 ∨ lim = 4294967295) {l : List Int} (h : 0 < l.length) (ht : ∀ j, j < l.length → tagOk lim l j = true) : decide (0 < lim) = true := by
  have h0 := ht 0 h
  rw [tagOk_zero h rfl] at h0
  unfold between at h0
  simp only [Bool.and_eq_true, decide_eq_true_eq] at h0
  simp; omega
set_option maxRecDepth 100000 in
set_option maxHeartbeats 4000000 in
theorem iChoice_c (A : Option Addr) (ds : List DRule) (c : Nat) (r : DRule) (Ab : Option Addr) (cb : Nat) (An : Option Addr) (cn : Nat) (At : Option Addr) (ct : Nat) (Ak : Option Addr) (ck : Nat) (w : World) (hd : RdD w A ds c) (h : RdS w r Ab cb An cn At ct Ak ck) (hs : ShortR r) :
    Gives Tryd.prog 120 #[vdesc (.slice A ds.length c), vrule r (.slice Ab r.bytes.length cb) (.slice An r.names.length cn) (.slice At r.tags.length ct) (.slice Ak r.kids.length ck)] w (.bool (choOk ds r)) := by
  have eb := Ext_alloc (.cells #[.string r.nm, .int .i64 r.kind, .int .i64 r.size, .bool r.little, .slice Ab r.bytes.length cb, .slice An r.names.length cn, .slice At r.tags.length ct, .slice Ak r.kids.length ck] 69) (Ext_alloc (.cells #[.slice A ds.length c] 30) (Ext.refl w))
  have BX := fun w' (e : Ext ((w.alloc (.cells #[.slice A ds.length c] 30)).alloc (.cells #[.string r.nm, .int .i64 r.kind, .int .i64 r.size, .bool r.little, .slice Ab r.bytes.length cb, .slice An r.names.length cn, .slice At r.tags.length ct, .slice Ak r.kids.length ck] 69)) w') => boxed2 e
  have B0 := fun w' e => (BX w' e).1
  have B1 := fun w' e => (BX w' e).2.1
  clear BX
  have CP := Lib.hid (fun w => iPlain0001_c r Ab cb An cn At ct Ak ck ((r.tags.length : Int) + 1) w h.lens)
  obtain ⟨hl1, hl2, hl3, hl4⟩ := hs
  have hT := h.t; have hK := h.k
  clear h
  have HK : Hid (plainB r false false false true ((r.tags.length : Int) + 1) = true → r.kids.length = r.tags.length + 1) := fun hp => plainB_kids (k := r.tags.length + 1) (by rw [Int.natCast_add]; exact hp)
  unfold choOk
  generalize plainB r false false false true ((r.tags.length : Int) + 1) = p at *
  unfold vrule vdesc at *
  cases p
  · go_enter Tryd.func120, Tryd.ntmps120
    go_wp2_with fail
    refine (CP.out _).mono ?_; rintro _ w1 ⟨rfl, he1⟩
    go_wp2
    go_ret
    exact ⟨ret_bool (by simp), eb.trans he1⟩
  have hlen := HK.out rfl
  have CI := Lib.hid (fun w => iInRange_c (r.tags.length : Int) 1 8 w)
  have HB : Hid (between r.tags.length 1 8 = (decide ((1 : Int) ≤ (r.tags.length : Int)) && decide ((r.tags.length : Int) ≤ 8))) := rfl
  rw [← HB.out] at CI
  have HP : Hid (between r.tags.length 1 8 = true → 0 < r.tags.length) := by intro hq; unfold between at hq; simp only [Bool.and_eq_true, decide_eq_true_eq] at hq; omega
  have HLEN := Lib.hid hlen
  clear HB hlen HK
  generalize between r.tags.length 1 8 = p2 at *
  cases p2
  · go_enter Tryd.func120, Tryd.ntmps120
    go_wp2_with fail
    refine (CP.out _).mono ?_; rintro _ w1 ⟨rfl, he1⟩
    go_wp2_with fail
    refine (CI.out _).mono ?_; rintro _ w2 ⟨rfl, he2⟩
    go_wp2
    go_ret
    exact ⟨ret_bool (by simp), eb.trans (he1.trans he2)⟩
  · have hpos := HP.out rfl
    have hk0 : 0 < r.kids.length := by have := HLEN.out; omega
    obtain ⟨bk, ok, rfl, hbk, hck⟩ := hK.at 0 hk0
    have HG : Hid (r.kids.getD 0 0 = r.kids[0]) := by show _ = _; simp [List.getD_eq_getElem?_getD, List.getElem?_eq_getElem hk0]
    rw [HG.out]
    rw [Nat.add_zero] at hck
    generalize r.kids[0] = kid at *
    have CL := Lib.hid (fun w h => iLimit_c A ds c kid w h)
    have HLC := Lib.hid (limD_cases ds kid)
    unfold vdesc at CL
    generalize limD ds kid = lim at *
    have hck' := fun w' (e : Ext _ w') => hck w' (eb.trans e)
    clear hck hK HG
    go_enter Tryd.func120, Tryd.ntmps120
    go_wp2_with fail
    refine (CP.out _).mono ?_; rintro _ w1 ⟨rfl, he1⟩
    go_wp2_with fail
    refine (CI.out _).mono ?_; rintro _ w2 ⟨rfl, he2⟩
    have e2 := he1.trans he2
    clear CI CP he1 he2
    go_wp2_with fail
    refine wp_region_quiet_below (by kernel_rfl) (by kernel_rfl) ?_
    repeat (go_big_quiet_step ((go_at_call 118; exact Calls.regrown_of (CL.out _ (hd.ext (eb.trans (by first | assumption | exact Ext_regrown _ _ e2)))))))
    refine wpQuiet_nil ?_
    rintro w3 ⟨⟨nq, osq⟩, hq⟩
    have ew3 := ext_of_q hq
    clear hq nq osq
    have e3 := e2.trans ew3
    clear e2 ew3 CL
    go_wp2
    go_loopw [31] (fun i wr => ∃ k : Nat, k ≤ r.tags.length ∧ i = .int .i64 k ∧ Hid (∀ j, j < k → tagOk lim r.tags j = true) ∧ Ext _ wr) (fun i _ => r.tags.length - (intOf i).toNat)
    case atStart => exact ⟨0, by omega, rfl, (fun j hj => by omega), e3⟩
    case round =>
      clear e3
      obtain ⟨k, hk, rfl, ht, he⟩ := hrel
      by_cases hlt : k < r.tags.length
      · obtain ⟨b, off, rfl, hb, hc⟩ := hT.at k hlt
        have hc' := fun w' (e : Ext _ w') => hc w' (eb.trans e)
        have NO : Hid (tagOk lim r.tags k = false → allN r.tags.length (tagOk lim r.tags) = false) := fun hf => allN_no hlt hf
        have YES : Hid (tagOk lim r.tags k = true → ∀ j, j < k + 1 → tagOk lim r.tags j = true) := upTo ht.out
        have CB := Lib.hid (fun w => iInRange_c r.tags[k] 0 lim w)
        have HB : Hid (between r.tags[k] 0 lim = (decide ((0 : Int) ≤ r.tags[k]) && decide (r.tags[k] ≤ lim))) := rfl
        rw [← HB.out] at CB
        clear HB
        rcases Nat.eq_zero_or_pos k with hz | hpos'
        · have HN := Lib.hid (tagOk_zero (lim := lim) hlt hz)
          have d1 : decide ((0 : Int) < (k : Int)) = false := by simp; omega
          have d2 : decide (0 < k) = false := by simp; omega
          clear hz
          generalize r.tags[k] = x at *
          generalize between x 0 lim = q1 at *
          clear hc hT ht
          cases q1
          · have HE := Lib.hid (NO.out HN.out); clear NO YES HN
            go_wp2_with fail
            refine (CB.out _).mono ?_; rintro _ w4 ⟨rfl, he4⟩
            go_wp2
            go_ret
            exact ⟨ret_bool (by rw [HE.out]; simp), eb.trans (he.trans he4)⟩
          · have HE := Lib.hid (YES.out HN.out); clear NO YES HN
            go_wp2_with fail
            refine (CB.out _).mono ?_; rintro _ w4 ⟨rfl, he4⟩
            go_wp2
            go_roundw
            case rel => exact ⟨k+1, by omega, by go_num, HE.out, he.trans he4⟩
            case measure => simp [intOf]; omega
        · obtain ⟨m, rfl⟩ : ∃ m, k = m + 1 := ⟨k - 1, by omega⟩
          have HN := Lib.hid (tagOk_succ (lim := lim) hlt)
          obtain ⟨b', off', hh, _, hcm⟩ := hT.at m (by omega)
          obtain ⟨rfl, rfl⟩ : b = b' ∧ off = off' := by injection hh with hh; injection hh with h1 h2; exact ⟨h1, h2⟩
          have hcm' := fun w' (e : Ext _ w') => hcm w' (eb.trans e)
          have hwm := wrap_back m (by omega)
          generalize r.tags[m + 1] = x at *
          generalize r.tags[m] = y at *
          generalize between x 0 lim = q1 at *
          clear hc hT ht hcm hh
          cases q1
          · have HE := Lib.hid (NO.out (HN.out.trans (by simp))); clear NO YES HN
            go_wp2_with fail
            refine (CB.out _).mono ?_; rintro _ w4 ⟨rfl, he4⟩
            go_wp2
            go_ret
            exact ⟨ret_bool (by rw [HE.out]; simp), eb.trans (he.trans he4)⟩
          · cases hq : decide (x ≤ y)
            · have HE := Lib.hid (YES.out (HN.out.trans (by rw [hq]; simp))); clear NO YES HN
              go_wp2_with fail
              refine (CB.out _).mono ?_; rintro _ w4 ⟨rfl, he4⟩
              have e4 := he.trans he4
              go_wp2
              go_roundw
              case rel => exact ⟨m+2, by omega, by go_num, HE.out, e4⟩
              case measure => simp [intOf]; omega
            · have HE := Lib.hid (NO.out (HN.out.trans (by rw [hq]; simp))); clear NO YES HN
              go_wp2_with fail
              refine (CB.out _).mono ?_; rintro _ w4 ⟨rfl, he4⟩
              have e4 := he.trans he4
              go_wp2
              go_ret
              exact ⟨ret_bool (by rw [HE.out]; simp), eb.trans e4⟩
      · have HE : Hid (allN r.tags.length (tagOk lim r.tags) = true) := allN_yes (fun j hj => ht.out j (by omega))
        have HL0 := Lib.hid (lim_pos HLC.out hpos (fun j hj => ht.out j (by omega)))
        have hl0 := HL0.out
        go_wp2
        go_ret
        exact ⟨ret_bool (by rw [HE.out]; simp), eb.trans he⟩
end Go.Proofs.YtdbbdoldndnbhaaDoor
