/- Names of rules: FindRule, DescriptionNames, SharedNames. -/
import Derived.Test.YtophjmphjdhjoaaZLp7
import Derived.Deep.RegionHeld3
set_option linter.unusedVariables false
set_option linter.unusedSimpArgs false
namespace Go.Proofs.Ytophjmphjdhjoaa
open Go.RowKit Go.Sort

/-- the first rule with this name, or -1 -/
def findR (ds : List DRule) (s : ByteArray) : Int := match ds.findIdx? (fun r => r.nm.toList == s.toList) with | some i => (i : Int) | none => -1
def nmsOf (ds : List DRule) : List ByteArray := ds.map DRule.nm
theorem findR_at {ds : List DRule} {s : ByteArray} {k : Nat} (hk : k < ds.length) (h : (ds[k].nm.toList == s.toList) = true) (hn : ∀ j (hj : j < ds.length), j < k → (ds[j].nm.toList == s.toList) = false) : findR ds s = (k : Int) := by
  unfold findR
  have : ds.findIdx? (fun r => r.nm.toList == s.toList) = some k := by
    rw [List.findIdx?_eq_some_iff_getElem]
    exact ⟨hk, h, fun j hj => by rw [hn j (by omega) hj]; simp⟩
  rw [this]
theorem findR_none {ds : List DRule} {s : ByteArray} (hn : ∀ j (hj : j < ds.length), (ds[j].nm.toList == s.toList) = false) : findR ds s = -1 := by
  unfold findR
  have : ds.findIdx? (fun r => r.nm.toList == s.toList) = none := by
    rw [List.findIdx?_eq_none_iff]
    intro x hx
    obtain ⟨j, hj, rfl⟩ := List.getElem_of_mem hx
    exact hn j hj
  rw [this]
theorem findR_has (ds : List DRule) (s : ByteArray) : decide (0 ≤ findR ds s) = hasNm (nmsOf ds) s := by
  unfold findR hasNm nmsOf
  cases h : ds.findIdx? (fun r => r.nm.toList == s.toList) with
  | none =>
    rw [List.findIdx?_eq_none_iff] at h
    have : (ds.map DRule.nm).any (fun x => x.toList == s.toList) = false := by
      rw [List.any_map, List.any_eq_false]
      intro x hx
      have := h x hx
      simp only [Function.comp_apply]
      rw [this]; simp
    rw [this]; simp
  | some i =>
    rw [List.findIdx?_eq_some_iff_getElem] at h
    obtain ⟨hi, h1, _⟩ := h
    have : (ds.map DRule.nm).any (fun x => x.toList == s.toList) = true := by
      rw [List.any_map, List.any_eq_true]
      exact ⟨ds[i], List.getElem_mem hi, h1⟩
    rw [this]; simp
theorem findR_lt (ds : List DRule) (s : ByteArray) : -1 ≤ findR ds s ∧ findR ds s < ds.length ∨ findR ds s = -1 := by
  unfold findR
  cases h : ds.findIdx? (fun r => r.nm.toList == s.toList) with
  | none => exact .inr rfl
  | some i =>
    rw [List.findIdx?_eq_some_iff_getElem] at h
    obtain ⟨hi, _, _⟩ := h
    left; simp only; omega
set_option maxRecDepth 100000 in
set_option maxHeartbeats 2000000 in
theorem sFind_c (A : Option Addr) (ds : List DRule) (c : Nat) (s : ByteArray) (w : World) (hd : RdD w A ds c) :
    Gives Try.prog 31 #[vdesc (.slice A ds.length c), .string s] w (.int .i64 (findR ds s)) := by
  have hl := hd.len
  have eb := Ext_alloc (.cells #[.slice A ds.length c] 26) (Ext.refl w)
  have BX := fun w' (e : Ext (w.alloc (.cells #[.slice A ds.length c] 26)) w') => boxed e
  unfold vdesc
  go_enter Try.func31, Try.ntmps31
  go_wp2
  go_loopw [5] (fun q wr => ∃ k : Nat, k ≤ ds.length ∧ q = .int .i64 k ∧ Hid (∀ j (hj : j < ds.length), j < k → (ds[j].nm.toList == s.toList) = false) ∧ Ext (w.alloc (.cells #[.slice A ds.length c] 26)) wr) (fun q _ => ds.length - (intOf q).toNat)
  case atStart => exact ⟨0, by omega, rfl, (fun j _ hj => by omega), Ext.refl _⟩
  case round =>
    obtain ⟨k, hk, rfl, ht, he⟩ := hrel
    by_cases hlt : k < ds.length
    · obtain ⟨b, off, Ab, cb, An, cn, At, ct, Ak, ck, rfl, hb, _, hR⟩ := hd.at k hlt
      have YES : Hid ((ds[k].nm.toList == s.toList) = true → findR ds s = (k : Int)) := fun h => findR_at hlt h ht.out
      have NO : Hid ((ds[k].nm.toList == s.toList) = false → ∀ j (hj : j < ds.length), j < k + 1 → (ds[j].nm.toList == s.toList) = false) := by
        intro hy j hj hjk
        rcases (by omega : j < k ∨ j = k) with hjk | rfl
        · exact ht.out j hj hjk
        · exact hy
      generalize ds[k] = p at *
      obtain ⟨m0, m1, m2, m3, m4, m5, m6, m7⟩ := hR.ext eb
      clear hd hR ht
      cases hq : (p.nm.toList == s.toList)
      · have HE := Lib.hid (NO.out hq); clear YES NO
        go_wp2
        go_roundw
        case rel => exact ⟨k+1, by omega, by go_num, HE.out, he⟩
        case measure => simp [intOf]; omega
      · have HE := Lib.hid (YES.out hq); clear YES NO
        go_wp2
        go_ret
        exact ⟨ret_i64 HE.out.symm, eb.trans he⟩
    · have HE : Hid (findR ds s = -1) := findR_none (fun j hj => ht.out j hj (by omega))
      go_wp2
      go_ret
      exact ⟨ret_i64 HE.out.symm, eb.trans he⟩

set_option maxRecDepth 100000 in
set_option maxHeartbeats 2000000 in
theorem iFind_c (A : Option Addr) (ds : List DRule) (c : Nat) (s : ByteArray) (w : World) (hd : RdD w A ds c) :
    Gives Try.prog 28 #[vdesc (.slice A ds.length c), .string s] w (.int .i64 (findR ds s)) := by
  have hl := hd.len
  have eb := Ext_alloc (.cells #[.slice A ds.length c] 26) (Ext.refl w)
  have BX := fun w' (e : Ext (w.alloc (.cells #[.slice A ds.length c] 26)) w') => boxed e
  unfold vdesc
  go_enter Try.func28, Try.ntmps28
  go_wp2
  go_loopw [10] (fun q wr => ∃ k : Nat, k ≤ ds.length ∧ q = .int .i64 k ∧ Hid (∀ j (hj : j < ds.length), j < k → (ds[j].nm.toList == s.toList) = false) ∧ Ext (w.alloc (.cells #[.slice A ds.length c] 26)) wr) (fun q _ => ds.length - (intOf q).toNat)
  case atStart => exact ⟨0, by omega, rfl, (fun j _ hj => by omega), Ext.refl _⟩
  case round =>
    obtain ⟨k, hk, rfl, ht, he⟩ := hrel
    by_cases hlt : k < ds.length
    · obtain ⟨b, off, Ab, cb, An, cn, At, ct, Ak, ck, rfl, hb, _, hR⟩ := hd.at k hlt
      have YES : Hid ((ds[k].nm.toList == s.toList) = true → findR ds s = (k : Int)) := fun h => findR_at hlt h ht.out
      have NO : Hid ((ds[k].nm.toList == s.toList) = false → ∀ j (hj : j < ds.length), j < k + 1 → (ds[j].nm.toList == s.toList) = false) := by
        intro hy j hj hjk
        rcases (by omega : j < k ∨ j = k) with hjk | rfl
        · exact ht.out j hj hjk
        · exact hy
      generalize ds[k] = p at *
      obtain ⟨m0, m1, m2, m3, m4, m5, m6, m7⟩ := hR.ext eb
      clear hd hR ht
      cases hq : (p.nm.toList == s.toList)
      · have HE := Lib.hid (NO.out hq); clear YES NO
        go_wp2
        go_roundw
        case rel => exact ⟨k+1, by omega, by go_num, HE.out, (Ext_alloc _ he)⟩
        case measure => simp [intOf]; omega
      · have HE := Lib.hid (YES.out hq); clear YES NO
        go_wp2
        go_ret
        exact ⟨ret_i64 HE.out.symm, eb.trans (Ext_alloc _ he)⟩
    · have HE : Hid (findR ds s = -1) := findR_none (fun j hj => ht.out j hj (by omega))
      go_wp2
      go_ret
      exact ⟨ret_i64 HE.out.symm, eb.trans he⟩
section
variable {P : Program} {ops : Array Oper} {rest : List Oper} {o : Oper} {a : Act} {Q : Exit → Act → World → Prop}
/-- append(s, y1, .., ym), with what becomes of the block -/
theorem wpList_appNB (hgd : o.guard = none) (s x : Operand) (t : TypeId) (ho : o.op = .call { callee := .builtin .append, args := #[s, x], argTypes := #[t, t] })
    {e : TypeId} {bytes : Nat} {z : Value} (hE : Elem P t e 1 bytes z) (hby : 1 ≤ bytes) (w0 w : World) {α : Type} (f : α → Value) (hf : ∀ x, (f x).oneCell' = true) (v : Value) (hs : a.eval s = v) (m c g : Nat) (hx : a.eval x = .slice (some ⟨g, 0, none⟩) m c) (hg : g = w.heap.size)
    (l ys : List α) (cs : Array Value) (hcs : cs = (ys.map f).toArray) (hown : OwnL f e w0 w v l) (he : Ext w0 w) (hm : m = ys.length)
    (hb : (l.length + ys.length) * bytes ≤ 140737488355328)
    (h : ∀ v' w', OwnL f e w0 w' v' (l ++ ys) → Ext w0 w' → (v'.ownBlock = v.ownBlock ∨ v'.ownBlock = some (w.alloc (.cells cs e)).heap.size) → (w.alloc (.cells cs e)).grownBy w' v.ownBlock → wpList P ops Q rest (a.put o.dst v') w') :
    wpList P ops Q (o :: rest) a (w.alloc (.cells cs e)) := by
  subst hcs; subst hg
  refine wpList_appL hgd s x t ho hE hby w0 _ f hf v hs (some ⟨w.heap.size, 0, none⟩) m c hx l ys (hown.ext (Ext_alloc _ (Ext.refl w))) (Ext_alloc _ he) hm (fun _ => ⟨_, rfl, fun j u hu => ?_⟩) hb h
  rw [World.cell?_alloc_at']; exact hu
end
theorem take_snoc' {α β : Type} (f : α → β) (l : List α) (k : Nat) (hk : k < l.length) : (l.take k).map f ++ [f l[k]] = (l.take (k+1)).map f := by
  rw [List.take_succ_eq_append_getElem hk, List.map_append]; rfl
/-- the names that both have, in the first one's order -/
def shared (a b : List DRule) : List ByteArray := (nmsOf a).filter (hasNm (nmsOf b))
def shr (a b : List DRule) (k : Nat) : List ByteArray := ((a.take k).map DRule.nm).filter (hasNm (nmsOf b))
theorem shr_yes {a b : List DRule} {k : Nat} (hk : k < a.length) (h : hasNm (nmsOf b) a[k].nm = true) : shr a b k ++ [a[k].nm] = shr a b (k+1) := by
  unfold shr; rw [List.take_succ_eq_append_getElem hk, List.map_append, List.filter_append]; simp [h]
theorem shr_no {a b : List DRule} {k : Nat} (hk : k < a.length) (h : hasNm (nmsOf b) a[k].nm = false) : shr a b k = shr a b (k+1) := by
  unfold shr; rw [List.take_succ_eq_append_getElem hk, List.map_append, List.filter_append]; simp [h]
theorem shr_len (a b : List DRule) (k : Nat) : (shr a b k).length ≤ k := by
  unfold shr; have h1 := List.length_filter_le (hasNm (nmsOf b)) ((a.take k).map DRule.nm); rw [List.length_map, List.length_take] at h1; omega
theorem shared_len {a b : List DRule} {n : Nat} (h : szD a ≤ n) : (shared a b).length ≤ n := by
  unfold shared; have h1 := List.length_filter_le (hasNm (nmsOf b)) (nmsOf a); unfold nmsOf at h1 ⊢; rw [List.length_map] at h1; unfold szD at h; omega
end Go.Proofs.Ytophjmphjdhjoaa

/- LostNames of the program and of the reference. -/
namespace Go.Proofs.Ytophjmphjdhjoaa
open Go.RowKit Go.Sort

def knownB (ds : List DRule) (i : Int) : Bool := descOk ds && (decide (0 ≤ i) && decide (i < ds.length))
set_option maxHeartbeats 1000000 in
theorem iKnown_c (A : Option Addr) (ds : List DRule) (c : Nat) (i : Int) (w : World) (hd : RdD w A ds c) (hs : ShortD ds) (hw : WfD ds) :
    Gives Try.prog 22 #[vdesc (.slice A ds.length c), .int .i64 i] w (.bool (knownB ds i)) := by
  have hl := hd.len
  have eb := Ext_alloc (.cells #[.slice A ds.length c] 26) (Ext.refl w)
  have BX := fun w' (e : Ext (w.alloc (.cells #[.slice A ds.length c] 26)) w') => boxed e
  have CV := Lib.hid (fun w h => iValidDesc_c A ds c w h hs hw)
  have CH := Lib.hid (fun w => hasRule_c A ds.length c i w hl)
  unfold knownB
  unfold vdesc at *
  generalize descOk ds = p at *
  generalize (decide (0 ≤ i) && decide (i < (ds.length : Int))) = q at *
  cases p
  · go_enter Try.func22, Try.ntmps22
    go_wp2_with fail
    refine (CV.out _ (hd.ext eb)).mono ?_; rintro _ w1 ⟨rfl, e1⟩
    go_wp2
    go_ret
    exact ⟨ret_bool (by simp), eb.trans e1⟩
  · go_enter Try.func22, Try.ntmps22
    go_wp2_with fail
    refine (CV.out _ (hd.ext eb)).mono ?_; rintro _ w1 ⟨rfl, e1⟩
    go_wp2_with fail
    refine (CH.out _).mono ?_; rintro _ w2 ⟨rfl, e2⟩
    go_wp2
    go_ret
    exact ⟨ret_bool (by simp), eb.trans (e1.trans e2)⟩
set_option maxHeartbeats 1000000 in
theorem sKnown_c (A : Option Addr) (ds : List DRule) (c : Nat) (i : Int) (w : World) (hd : RdD w A ds c) (hs : ShortD ds) (hw : WfD ds) :
    Gives Try.prog 24 #[vdesc (.slice A ds.length c), .int .i64 i] w (.bool (knownB ds i)) := by
  have hl := hd.len
  have eb := Ext_alloc (.cells #[.slice A ds.length c] 26) (Ext.refl w)
  have BX := fun w' (e : Ext (w.alloc (.cells #[.slice A ds.length c] 26)) w') => boxed e
  have CV := Lib.hid (fun w h => sValidDesc_c A ds c w h hs hw)
  have CH := Lib.hid (fun w => l1In_c i 0 ((ds.length : Int) - 1) w)
  have HQ : Hid ((decide (0 ≤ i) && decide (i < (ds.length : Int))) = (decide (0 ≤ i) && decide (i ≤ (ds.length : Int) - 1))) := by
    show _ = _; congr 1; rw [Bool.eq_iff_iff]; simp; omega
  unfold knownB
  rw [HQ.out]
  clear HQ
  unfold vdesc at *
  generalize descOk ds = p at *
  generalize (decide (0 ≤ i) && decide (i ≤ (ds.length : Int) - 1)) = q at *
  cases q
  · go_enter Try.func24, Try.ntmps24
    go_wp2_with fail
    refine (CH.out _).mono ?_; rintro _ w1 ⟨rfl, e1⟩
    go_wp2
    go_ret
    exact ⟨ret_bool (by simp), eb.trans e1⟩
  · go_enter Try.func24, Try.ntmps24
    go_wp2_with fail
    refine (CH.out _).mono ?_; rintro _ w1 ⟨rfl, e1⟩
    go_wp2_with fail
    refine (CV.out _ (hd.ext (eb.trans e1))).mono ?_; rintro _ w2 ⟨rfl, e2⟩
    go_wp2
    go_ret
    exact ⟨ret_bool (by simp), eb.trans (e1.trans e2)⟩
end Go.Proofs.Ytophjmphjdhjoaa

/- LostNames of the program and of the reference: the walks. -/
namespace Go.Proofs.Ytophjmphjdhjoaa
open Go.RowKit Go.Sort

def lostN (p q : DRule) : List ByteArray := p.names.filter (fun s => !hasNm q.names s)
/-- the names of a's sequence ra that b's sequence rb lacks -/
def lost (a : List DRule) (ra : Int) (b : List DRule) (rb : Int) : List ByteArray :=
  if knownB a ra = true then if knownB b rb = true then (match a[ra.toNat]?, b[rb.toNat]? with | some p, some q => if p.kind = 6 then if q.kind = 6 then lostN p q else [] else [] | _, _ => []) else [] else []
theorem knownB_at {a : List DRule} {ra : Int} (h : knownB a ra = true) : ∃ i : Nat, ∃ _ : i < a.length, ra = (i : Int) := by
  unfold knownB at h; simp at h; exact ⟨ra.toNat, by omega, by omega⟩
theorem lost_at {a b : List DRule} {i j : Nat} (h : knownB a (i : Int) = true) (h' : knownB b (j : Int) = true) (hi : i < a.length) (hj : j < b.length) :
    lost a i b j = if a[i].kind = 6 then if b[j].kind = 6 then lostN a[i] b[j] else [] else [] := by
  unfold lost; rw [if_pos h, if_pos h']; simp [hi, hj]
theorem names_len {a : List DRule} {n : Nat} (h : szD a ≤ n) {p : DRule} (hp : p ∈ a) : p.names.length ≤ n := by
  have := szD_mem h hp; unfold szRl at this; omega
theorem lost_len {a b : List DRule} {ra rb : Int} {n : Nat} (h : szD a ≤ n) : (lost a ra b rb).length ≤ n := by
  by_cases h1 : knownB a ra = true
  · by_cases h2 : knownB b rb = true
    · obtain ⟨i, hi, rfl⟩ := knownB_at h1
      obtain ⟨j, hj, rfl⟩ := knownB_at h2
      rw [lost_at h1 h2 hi hj]
      have h3 := names_len h (List.getElem_mem hi)
      have h4 := List.length_filter_le (fun s => !hasNm b[j].names s) a[i].names
      unfold lostN
      split
      · split
        · omega
        · simp
      · simp
    · unfold lost; rw [if_pos h1, if_neg h2]; simp
  · unfold lost; rw [if_neg h1]; simp
set_option maxRecDepth 100000 in
set_option maxHeartbeats 4000000 in
theorem iLost_c (A A' : Option Addr) (a b : List DRule) (c c' : Nat) (ra rb : Int) (w : World) (ha : RdD w A a c) (hb : RdD w A' b c') (hsa : ShortD a) (hwa : WfD a) (hsb : ShortD b) (hwb : WfD b) (hL : szD a ≤ 1048576) :
    Calls Try.prog 7 #[vdesc (.slice A a.length c), .int .i64 ra, vdesc (.slice A' b.length c'), .int .i64 rb] w fun e w' => ∃ v, e = .returned v ∧ OwnL vstr 9 w w' v (lost a ra b rb) ∧ Ext w w' := by
  have hl := ha.len
  have hl' := hb.len
  have eb := Ext_alloc (.cells #[.slice A' b.length c'] 26) (Ext_alloc (.cells #[.slice A a.length c] 26) (Ext.refl w))
  have BX := fun w' (e : Ext ((w.alloc (.cells #[.slice A a.length c] 26)).alloc (.cells #[.slice A' b.length c'] 26)) w') => boxed2 e
  have B0 := fun w' e => (BX w' e).1
  have B1 := fun w' e => (BX w' e).2.1
  clear BX
  have CA := Lib.hid (fun w h => iKnown_c A a c ra w h hsa hwa)
  have CB := Lib.hid (fun w h => iKnown_c A' b c' rb w h hsb hwb)
  unfold vdesc at *
  obtain ⟨W0, hW0⟩ : ∃ W0, W0 = ((w.alloc (.cells #[.slice A a.length c] 26)).alloc (.cells #[.slice A' b.length c'] 26)) := ⟨_, rfl⟩
  rw [← hW0] at eb B0 B1
  have hs0 : W0.heap.size = w.heap.size + 1 + 1 := by rw [hW0]; simp
  have OE := OwnL.empty (f := vstr) (e := 9) (Ext.refl W0)
  rw [hs0] at OE
  have HOE := Lib.hid OE; have HW0 := Lib.hid hW0
  have x0 := Ext_alloc (.cells #[] 9) (Ext.refl W0)
  clear OE hW0 hs0
  cases hka : knownB a ra
  · have HE : Hid (lost a ra b rb = []) := by show _ = _; unfold lost; rw [hka]; rfl
    rw [hka] at CA; clear hka
    go_enter Try.func7, Try.ntmps7
    go_wp2_with fail
    rw [← HW0.out]
    refine (CA.out _ (ha.ext (eb.trans x0))).mono ?_; rintro _ w1 ⟨rfl, s1⟩
    have e1 := x0.trans s1
    go_wp2
    go_ret
    refine ⟨_, rfl, ?_, eb.trans (x0.trans s1)⟩
    rw [HE.out]; exact (HOE.out.ext s1).down eb.size
  cases hkb : knownB b rb
  · have HE : Hid (lost a ra b rb = []) := by show _ = _; unfold lost; rw [hka, hkb]; rfl
    rw [hka] at CA; clear hka
    rw [hkb] at CB; clear hkb
    go_enter Try.func7, Try.ntmps7
    go_wp2_with fail
    rw [← HW0.out]
    refine (CA.out _ (ha.ext (eb.trans x0))).mono ?_; rintro _ w1 ⟨rfl, s1⟩
    have e1 := x0.trans s1
    go_wp2_with fail
    refine (CB.out _ (hb.ext (eb.trans (x0.trans s1)))).mono ?_; rintro _ w2 ⟨rfl, s2⟩
    go_wp2
    go_ret
    refine ⟨_, rfl, ?_, eb.trans (x0.trans (s1.trans s2))⟩
    rw [HE.out]; exact (HOE.out.ext (s1.trans s2)).down eb.size
  obtain ⟨i, hi, rfl⟩ := knownB_at hka
  obtain ⟨j, hj, rfl⟩ := knownB_at hkb
  have HLV : Hid (lost a (i : Int) b (j : Int) = if a[i].kind = 6 then if b[j].kind = 6 then lostN a[i] b[j] else [] else []) := lost_at hka hkb hi hj
  have hln : a[i].names.length ≤ 1048576 := names_len hL (List.getElem_mem hi)
  rw [hka] at CA; clear hka
  rw [hkb] at CB; clear hkb
  obtain ⟨ba, oa, Ab, cb, An, cn, At, ct, Ak, ck, rfl, hba, hSa, hRa⟩ := ha.at i hi
  obtain ⟨bb, ob, Ab', cb', An', cn', At', ct', Ak', ck', rfl, hbb, hSb, hRb⟩ := hb.at j hj
  have hna := hSa.n.ext eb; have hnb := hSb.n.ext eb
  have HA := Lib.hid ha; have HB := Lib.hid hb
  generalize a[i] = p at *
  generalize b[j] = q at *
  obtain ⟨l0, l1, l2, l3, l4, l5, l6, l7⟩ := hRa.ext eb
  obtain ⟨m0, m1, m2, m3, m4, m5, m6, m7⟩ := hRb.ext eb
  have hkp := hna.len; have hkq := hnb.len
  clear ha hb hRa hRb hSa hSb l0 l2 l3 l4 l6 l7 m0 m2 m3 m4 m6 m7
  have CT := Lib.hid (fun s w h => iContains_c An' q.names cn' s w h)
  have HNB := Lib.hid hnb; clear hnb
  by_cases hp6 : ¬ p.kind = 6
  · have HE : Hid (lost a i b j = []) := by show _ = _; rw [HLV.out, if_neg hp6]
    go_enter Try.func7, Try.ntmps7
    go_wp2_with fail
    rw [← HW0.out]
    refine (CA.out _ (HA.out.ext (eb.trans x0))).mono ?_; rintro _ w1 ⟨rfl, s1⟩
    have e1 := x0.trans s1
    go_wp2_with fail
    refine (CB.out _ (HB.out.ext (eb.trans (x0.trans s1)))).mono ?_; rintro _ w2 ⟨rfl, s2⟩
    have e2 := x0.trans (s1.trans s2)
    go_wp2
    go_ret
    refine ⟨_, rfl, ?_, eb.trans (x0.trans (s1.trans s2))⟩
    rw [HE.out]; exact (HOE.out.ext (s1.trans s2)).down eb.size
  replace hp6 := Classical.not_not.1 hp6
  by_cases hq6 : ¬ q.kind = 6
  · have HE : Hid (lost a i b j = []) := by show _ = _; rw [HLV.out, if_pos hp6, if_neg hq6]
    go_enter Try.func7, Try.ntmps7
    go_wp2_with fail
    rw [← HW0.out]
    refine (CA.out _ (HA.out.ext (eb.trans x0))).mono ?_; rintro _ w1 ⟨rfl, s1⟩
    have e1 := x0.trans s1
    go_wp2_with fail
    refine (CB.out _ (HB.out.ext (eb.trans (x0.trans s1)))).mono ?_; rintro _ w2 ⟨rfl, s2⟩
    have e2 := x0.trans (s1.trans s2)
    go_wp2
    go_ret
    refine ⟨_, rfl, ?_, eb.trans (x0.trans (s1.trans s2))⟩
    rw [HE.out]; exact (HOE.out.ext (s1.trans s2)).down eb.size
  replace hq6 := Classical.not_not.1 hq6
  have HE : Hid (lost a i b j = lostN p q) := by show _ = _; rw [HLV.out, if_pos hp6, if_pos hq6]
  go_enter Try.func7, Try.ntmps7
  go_wp2_with fail
  rw [← HW0.out]
  refine (CA.out _ (HA.out.ext (eb.trans x0))).mono ?_; rintro _ w1 ⟨rfl, s1⟩
  have e1 := x0.trans s1
  go_wp2_with fail
  refine (CB.out _ (HB.out.ext (eb.trans (x0.trans s1)))).mono ?_; rintro _ w2 ⟨rfl, s2⟩
  have e2 := x0.trans (s1.trans s2)
  have HO1 := Lib.hid (HOE.out.ext (s1.trans s2))
  clear s1 s2 HOE CA CB HLV HA HB x0
  go_wp2
  go_loopw [9, 49] (fun t q' wr => ∃ k : Nat, k ≤ p.names.length ∧ q' = .int .i64 k ∧ Hid (OwnL vstr 9 W0 wr t ((p.names.take k).filter (fun s => !hasNm q.names s))) ∧ Ext W0 wr) (fun _ q' _ => p.names.length - (intOf q').toNat)
  case atStart => exact ⟨0, by omega, rfl, by simpa [Hid] using HO1.out, e2⟩
  case round =>
    clear HO1 e2
    obtain ⟨k, hk, rfl, ho, he⟩ := hrel
    by_cases hlt : k < p.names.length
    · obtain ⟨bn, on, rfl, hbn, hcn⟩ := hna.at k hlt
      have HY : Hid (hasNm q.names p.names[k] = false → (p.names.take k).filter (fun s => !hasNm q.names s) ++ [p.names[k]] = (p.names.take (k+1)).filter (fun s => !hasNm q.names s)) := by
        intro h; rw [List.take_succ_eq_append_getElem hlt, List.filter_append]; simp [h]
      have HN : Hid (hasNm q.names p.names[k] = true → (p.names.take k).filter (fun s => !hasNm q.names s) = (p.names.take (k+1)).filter (fun s => !hasNm q.names s)) := by
        intro h; rw [List.take_succ_eq_append_getElem hlt, List.filter_append]; simp [h]
      have hsl : ((p.names.take k).filter (fun s => !hasNm q.names s)).length ≤ k := by
        have h1 := List.length_filter_le (fun s => !hasNm q.names s) (p.names.take k); rw [List.length_take] at h1; omega
      have HB : Hid ((((p.names.take k).filter (fun s => !hasNm q.names s)).length + [p.names[k]].length) * 16 ≤ 140737488355328) := by show _ ≤ _; simp only [List.length_cons, List.length_nil]; omega
      generalize (p.names.take k).filter (fun s => !hasNm q.names s) = L at *
      obtain ⟨L', hL''⟩ : ∃ L', (p.names.take (k+1)).filter (fun s => !hasNm q.names s) = L' := ⟨_, rfl⟩
      rw [hL''] at HY HN
      have HLL := Lib.hid hL''; clear hL''
      have C := Lib.hid (fun w h => CT.out p.names[k] w h)
      generalize p.names[k] = x at *
      clear hna hsl
      generalize hasNm q.names x = z at *
      cases z
      · have HE := Lib.hid (HY.out rfl); clear HY HN
        go_wp2_with fail
        refine (C.out _ (HNB.out.ext he)).mono ?_; rintro _ w3 ⟨rfl, s3⟩
        have HO := Lib.hid (ho.out.ext s3)
        have e3 := he.trans s3
        go_wp2_with (first
          | (at_builtin; go_must (refine wpList_appN rfl (.tmp 62) (.tmp 64) _ rfl E_str (by omega) W0 _ vstr (fun _ => rfl) _ rfl _ _ rfl L [x] _ rfl HO.out e3 rfl HB.out ?_); intro v1 w4 ho1 he1; rw [HE.out, ← HLL.out] at ho1))
        have H1 := Lib.hid ho1; clear ho1
        go_roundw
        case rel => exact ⟨k+1, by omega, by go_num, H1, he1⟩
        case measure => simp [intOf]; omega
      · have HE := Lib.hid (HN.out rfl); clear HY HN
        go_wp2_with fail
        refine (C.out _ (HNB.out.ext he)).mono ?_; rintro _ w3 ⟨rfl, s3⟩
        have ho1 := ho.out.ext s3
        rw [HE.out, ← HLL.out] at ho1
        have H1 := Lib.hid ho1; clear ho1
        go_wp2
        go_roundw
        case rel => exact ⟨k+1, by omega, by go_num, H1, he.trans s3⟩
        case measure => simp [intOf]; omega
    · have HF : Hid ((p.names.take k).filter (fun s => !hasNm q.names s) = lostN p q) := by show _ = _; unfold lostN; rw [List.take_of_length_le (by omega)]
      go_wp2
      go_ret
      refine ⟨_, rfl, ?_, eb.trans he⟩
      rw [HE.out, ← HF.out]; exact ho.out.down eb.size
end Go.Proofs.Ytophjmphjdhjoaa

/- Lost names, the plain part: they stand in the old sequence, and not in the new one. -/
namespace Go.Proofs.Ytophjmphjdhjoaa

theorem hasNm_mem {l : List ByteArray} {s : ByteArray} (h : s ∈ l) : hasNm l s = true := List.any_eq_true.2 ⟨s, h, by simp⟩
theorem lost_mem {a b : List DRule} {ra rb : Int} {s : ByteArray} (h : s ∈ lost a ra b rb) :
    ∃ i, ∃ hi : i < a.length, ra = (i : Int) ∧ hasNm a[i].names s = true ∧ hasNm (lost b rb a ra) s = false := by
  unfold lost at h
  split at h
  · rename_i h1
    split at h
    · rename_i h2
      obtain ⟨i, hi, rfl⟩ := knownB_at h1
      obtain ⟨j, hj, rfl⟩ := knownB_at h2
      simp only [Int.toNat_natCast, List.getElem?_eq_getElem hi, List.getElem?_eq_getElem hj] at h
      split at h
      · rename_i k1
        split at h
        · rename_i k2
          unfold lostN at h
          obtain ⟨m1, m2⟩ := List.mem_filter.1 h
          refine ⟨i, hi, rfl, hasNm_mem m1, ?_⟩
          unfold lost
          rw [if_pos h2, if_pos h1]
          simp only [Int.toNat_natCast, List.getElem?_eq_getElem hi, List.getElem?_eq_getElem hj]
          rw [if_pos k2, if_pos k1]
          refine hasNm_none fun k hk => ?_
          unfold lostN at hk ⊢
          have h3 := (List.mem_filter.1 (List.getElem_mem hk)).2
          rw [Bool.eq_false_iff]
          intro he
          have h4 : hasNm a[i].names ((b[j].names.filter (fun s => !hasNm a[i].names s))[k]) = true := by
            unfold hasNm
            exact List.any_eq_true.2 ⟨s, m1, by rw [beq_iff_eq] at he ⊢; exact he.symm⟩
          rw [h4] at h3
          simp at h3
        · simp at h
      · simp at h
    · simp at h
  · simp at h
end Go.Proofs.Ytophjmphjdhjoaa

/- The laws' marks on descriptions and registries: what they leave, and that no other block turns. -/
namespace Go.Proofs.Ytophjmphjdhjoaa
open Go.RowKit Go.Sort

def mkT (k : Nat) (i : Nat) : Value := .string (markT (k + i))
/-- how many marks a rule takes -/
def mlen (r : DRule) : Nat := 4 + r.bytes.length + r.names.length + r.tags.length + r.kids.length
def mkCells (m : Nat × RV) : List Value := [.string (markT m.1), .int .i64 ((m.1 : Int) + 1), .int .i64 ((m.1 : Int) + 2), .bool (((m.1 : Int) + 3) % 3 == 0), m.2.vb, m.2.vn, m.2.vt, m.2.vk]
def msR : Nat → List RV → List (Nat × RV)
  | _, [] => []
  | k, p :: t => (k, p) :: msR (k + mlen p.r) t
def kEndR : Nat → List RV → Nat
  | k, [] => k
  | k, p :: t => kEndR (k + mlen p.r) t
theorem msR_append (k : Nat) (a b : List RV) : msR k (a ++ b) = msR k a ++ msR (kEndR k a) b := by
  induction a generalizing k with
  | nil => rfl
  | cons p t ih => simp [msR, kEndR, ih]
theorem kEndR_append (k : Nat) (a b : List RV) : kEndR k (a ++ b) = kEndR (kEndR k a) b := by
  induction a generalizing k with
  | nil => rfl
  | cons p t ih => simp [kEndR, ih]
theorem msR_length (k : Nat) (a : List RV) : (msR k a).length = a.length := by
  induction a generalizing k with
  | nil => rfl
  | cons p t ih => simp [msR, ih]
theorem mkCells_len (ms : List (Nat × RV)) : (ms.flatMap mkCells).length = ms.length * 8 := by
  induction ms with
  | nil => rfl
  | cons p t ih => rw [List.flatMap_cons, List.length_append, ih, List.length_cons]; simp [mkCells]; omega
theorem kEndR_ge (k : Nat) (a : List RV) : k ≤ kEndR k a := by
  induction a generalizing k with
  | nil => simp [kEndR]
  | cons p t ih => have := ih (k + mlen p.r); simp only [kEndR]; omega
theorem kEndR_mono (k : Nat) (a : List RV) (i : Nat) : kEndR k (a.take i) ≤ kEndR k a := by
  conv => rhs; rw [← List.take_append_drop i a, kEndR_append]
  exact kEndR_ge _ _
theorem kEndR_eq (k : Nat) (a : List RV) : kEndR k a = k + (a.map fun p => mlen p.r).sum := by
  induction a generalizing k with
  | nil => simp [kEndR]
  | cons p t ih => rw [kEndR, ih, List.map_cons, List.sum_cons]; omega
theorem mlen_le (r : DRule) : mlen r ≤ 4 + szRl r := by unfold mlen szRl; omega
theorem kEndR_sz (k : Nat) (a : List RV) : kEndR k a ≤ k + 4 * a.length + ((rulesOf a).map szRl).sum := by
  rw [kEndR_eq]
  induction a with
  | nil => simp [rulesOf]
  | cons p t ih => have := mlen_le p.r; simp only [List.map_cons, List.sum_cons, List.length_cons, rulesOf] at *; omega
/-- four cells of a rule are laid -/
theorem mark_rowR (ms : List (Nat × RV)) (p : RV) (rest : List RV) (k i : Nat) (hi : ms.length = i) :
    ((((ms.flatMap mkCells ++ (p :: rest).flatMap RV.cells).set (i * 8) (.string (markT k))).set (i * 8 + 1) (.int .i64 ((k : Int) + 1))).set (i * 8 + 2) (.int .i64 ((k : Int) + 2))).set (i * 8 + 3) (.bool (((k : Int) + 3) % 3 == 0)) = (ms ++ [(k, p)]).flatMap mkCells ++ rest.flatMap RV.cells := by
  have hl : (ms.flatMap mkCells).length = i * 8 := by rw [mkCells_len, hi]
  rw [List.set_append_right _ _ (by omega), List.set_append_right _ _ (by omega), List.set_append_right _ _ (by omega), List.set_append_right _ _ (by omega), hl]
  rw [show i * 8 - i * 8 = 0 by omega, show i * 8 + 1 - i * 8 = 1 by omega, show i * 8 + 2 - i * 8 = 2 by omega, show i * 8 + 3 - i * 8 = 3 by omega]
  simp [RV.cells, mkCells, List.flatMap_cons]
theorem mk_getR (ms : List (Nat × RV)) (k : Nat) (p : RV) (rest : List Value) (i m : Nat) (hi : ms.length = i) (hm : m < 8) :
    ((ms ++ [(k, p)]).flatMap mkCells ++ rest)[i * 8 + m]? = (mkCells (k, p))[m]? := by
  have hl : (ms.flatMap mkCells).length = i * 8 := by rw [mkCells_len, hi]
  rw [List.flatMap_append, List.flatMap_cons, List.flatMap_nil, List.append_nil, List.append_assoc, List.getElem?_append_right (by omega), hl, show i * 8 + m - i * 8 = m by omega, List.getElem?_append_left (by simp [mkCells]; omega)]
/-- a rule's slices, marked from k on -/
structure RuleMarked (w0 w : World) (k : Nat) (p : RV) : Prop where
  b : Own 5 1 w0 w p.vb p.r.bytes.length ((List.range p.r.bytes.length).map (mk8 ((k : Int) + 4)))
  n : Own 9 1 w0 w p.vn p.r.names.length ((List.range p.r.names.length).map (mkT (k + 4 + p.r.bytes.length)))
  t : Own 3 1 w0 w p.vt p.r.tags.length ((List.range p.r.tags.length).map (mkI ((k + 4 + p.r.bytes.length + p.r.names.length : Nat) : Int)))
  k : Own 3 1 w0 w p.vk p.r.kids.length ((List.range p.r.kids.length).map (mkI ((k + 4 + p.r.bytes.length + p.r.names.length + p.r.tags.length : Nat) : Int)))
theorem RuleMarked.keep {w0 w w' : World} {k : Nat} {p : RV} (h : RuleMarked w0 w k p) {row : Option Nat} (hg : w.grownBy w' row) (hne : ∀ v ∈ p.vals, ∀ g, v.ownBlock = some g → row ≠ some g) : RuleMarked w0 w' k p :=
  ⟨h.b.keep hg (hne _ (by simp [RV.vals])), h.n.keep hg (hne _ (by simp [RV.vals])), h.t.keep hg (hne _ (by simp [RV.vals])), h.k.keep hg (hne _ (by simp [RV.vals]))⟩
theorem RuleMarked.ext {w0 w w' : World} {k : Nat} {p : RV} (h : RuleMarked w0 w k p) (e : Ext w w') : RuleMarked w0 w' k p := ⟨h.b.ext e, h.n.ext e, h.t.ext e, h.k.ext e⟩
/-- marked rules that the call since w0 made: the first i of them are marked -/
structure MarkingR (w0 w : World) (g c : Nat) (ps : List RV) (k i : Nat) : Prop where
  row : Own 35 8 w0 w (.slice (some ⟨g, 0, none⟩) ps.length c) ps.length ((msR k (ps.take i)).flatMap mkCells ++ (ps.drop i).flatMap RV.cells)
  done : ∀ j (h : j < ps.length), j < i → RuleMarked w0 w (kEndR k (ps.take j)) ps[j]
  todo : ∀ j (h : j < ps.length), i ≤ j → RuleOwn w0 w ps[j]
theorem far_parts {v : Value} {ps : List RV} (h : Far (v :: ps.flatMap RV.vals)) :
    (∀ j (hj : j < ps.length), ∀ u ∈ ps[j].vals, ∀ g, v.ownBlock = some g → u.ownBlock ≠ some g) ∧ (∀ i j (hi : i < ps.length) (hj : j < ps.length), i ≠ j → ∀ u ∈ ps[i].vals, ∀ x ∈ ps[j].vals, ∀ g, u.ownBlock = some g → x.ownBlock ≠ some g) ∧ (∀ j (hj : j < ps.length), Far ps[j].vals) := by
  unfold Far at h
  rw [List.pairwise_cons] at h
  obtain ⟨h1, h2⟩ := h
  rw [List.pairwise_flatMap] at h2
  refine ⟨fun j hj u hu g hg => h1 u (List.mem_flatMap.2 ⟨_, List.getElem_mem hj, hu⟩) g hg, fun i j hi hj hne u hu x hx g hg hg' => ?_, fun j hj => h2.1 _ (List.getElem_mem hj)⟩
  have hp := List.pairwise_iff_getElem.1 h2.2
  rcases Nat.lt_or_ge i j with hlt | hge
  · exact hp i j hi hj hlt u hu x hx g hg hg'
  · exact hp j i hj hi (by omega) x hx u hu g hg' hg
theorem far4 {p : RV} (h : Far p.vals) : (∀ g, p.vb.ownBlock = some g → p.vn.ownBlock ≠ some g) ∧ (∀ g, p.vb.ownBlock = some g → p.vt.ownBlock ≠ some g) ∧ (∀ g, p.vb.ownBlock = some g → p.vk.ownBlock ≠ some g) ∧
    (∀ g, p.vn.ownBlock = some g → p.vt.ownBlock ≠ some g) ∧ (∀ g, p.vn.ownBlock = some g → p.vk.ownBlock ≠ some g) ∧ (∀ g, p.vt.ownBlock = some g → p.vk.ownBlock ≠ some g) := by
  unfold Far RV.vals at h
  rw [List.pairwise_cons, List.pairwise_cons, List.pairwise_cons] at h
  obtain ⟨h1, h2, h3, _⟩ := h
  exact ⟨fun g hg => h1 _ (by simp) g hg, fun g hg => h1 _ (by simp) g hg, fun g hg => h1 _ (by simp) g hg, fun g hg => h2 _ (by simp) g hg, fun g hg => h2 _ (by simp) g hg, fun g hg => h3 _ (by simp) g hg⟩
theorem len_mlen : ∀ ps : List RV, ps.length ≤ (ps.map fun p => mlen p.r).sum
  | [] => by simp
  | p :: t => by
    have := len_mlen t
    have h : 1 ≤ mlen p.r := by unfold mlen; omega
    simp only [List.map_cons, List.sum_cons, List.length_cons]; omega
theorem cells_getR (ms : List (Nat × RV)) (p : RV) (rest : List RV) (i m : Nat) (hi : ms.length = i) (hm : m < 8) :
    (ms.flatMap mkCells ++ (p :: rest).flatMap RV.cells)[i * 8 + m]? = p.cells[m]? := by
  have hl : (ms.flatMap mkCells).length = i * 8 := by rw [mkCells_len, hi]
  rw [List.getElem?_append_right (by omega), hl, show i * 8 + m - i * 8 = m by omega, List.flatMap_cons, List.getElem?_append_left (by simp [RV.cells]; omega)]
end Go.Proofs.Ytophjmphjdhjoaa

/- The laws' marks laid over rules. -/
namespace Go.Proofs.Ytophjmphjdhjoaa
open Go.RowKit Go.Sort

end Go.Proofs.Ytophjmphjdhjoaa

/- The laws' copies of registries. -/
namespace Go.Proofs.Ytophjmphjdhjoaa
open Go.RowKit Go.Sort

theorem descsOf_append (a b : List (Value × List RV)) : descsOf (a ++ b) = descsOf a ++ descsOf b := by simp [descsOf]
end Go.Proofs.Ytophjmphjdhjoaa

/- Comparison of descriptions and registries. -/
namespace Go.Proofs.Ytophjmphjdhjoaa
open Go.RowKit Go.Sort

set_option maxRecDepth 100000 in
set_option maxHeartbeats 4000000 in
theorem sEqualDescriptions_c (A A' : Option Addr) (ds es : List DRule) (c c' : Nat) (w : World) (h : RdD w A ds c) (h' : RdD w A' es c') (hs : ShortD ds) (hs' : ShortD es) :
    Gives Try.prog 15 #[vdesc (.slice A ds.length c), vdesc (.slice A' es.length c')] w (.bool (eqD ds es)) := by
  have hl := h.len; have hl' := h'.len
  have eb := Ext_alloc (.cells #[.slice A' es.length c'] 26) (Ext_alloc (.cells #[.slice A ds.length c] 26) (Ext.refl w))
  have BX := fun w' (e : Ext ((w.alloc (.cells #[.slice A ds.length c] 26)).alloc (.cells #[.slice A' es.length c'] 26)) w') => boxed2 e
  have B0 := fun w' e => (BX w' e).1 0
  have B1 := fun w' e => (BX w' e).2.1 0
  simp only [List.getElem?_toArray, List.getElem?_cons_zero] at B0 B1
  clear BX
  unfold vdesc
  by_cases hn : ds.length = es.length
  · have hb1 : ((ds.length : Int) != (es.length : Int)) = false := by simp [hn]
    have H := Lib.hid hn; clear hn
    go_enter Try.func15, Try.ntmps15
    go_wp2
    go_loopw [5] (fun i wr => ∃ k : Nat, k ≤ ds.length ∧ i = .int .i64 k ∧ Hid (∀ j (h1 : j < ds.length) (h2 : j < es.length), j < k → eqR ds[j] es[j] = true) ∧ Ext ((w.alloc (.cells #[.slice A ds.length c] 26)).alloc (.cells #[.slice A' es.length c'] 26)) wr) (fun i _ => ds.length - (intOf i).toNat)
    case atStart => exact ⟨0, by omega, rfl, (fun j _ _ hj => by omega), Ext.refl _⟩
    case round =>
      obtain ⟨k, hk, rfl, ht, he⟩ := hrel
      by_cases hlt : k < ds.length
      · have hlt' : k < es.length := by have := H.out; omega
        obtain ⟨b, off, Ab, cb, An, cn, At, ct, Ak, ck, rfl, hb, hS, hR⟩ := h.at k hlt
        obtain ⟨b', off', Ab', cb', An', cn', At', ct', Ak', ck', rfl, hb', hS', hR'⟩ := h'.at k hlt'
        have s1 := hs _ (List.getElem_mem hlt); have s2 := hs' _ (List.getElem_mem hlt')
        have NO : Hid (eqR ds[k] es[k] = false → eqD ds es = false) := eqAll_take _ ds es k hlt hlt'
        have YES : Hid (eqR ds[k] es[k] = true → ∀ j (h1 : j < ds.length) (h2 : j < es.length), j < k + 1 → eqR ds[j] es[j] = true) := by
          intro hy j h1 h2 hj
          rcases (by omega : j < k ∨ j = k) with hj | rfl
          · exact ht.out j h1 h2 hj
          · exact hy
        generalize ds[k] = r at *
        generalize es[k] = q at *
        have CE := Lib.hid (fun w h h' => l4Equal_c r q Ab cb An cn At ct Ak ck Ab' cb' An' cn' At' ct' Ak' ck' w h h' s1 s2)
        generalize eqR r q = z at *
        replace hR := hR.ext eb
        replace hR' := hR'.ext eb
        obtain ⟨k0, k1, k2, k3, k4, k5, k6, k7⟩ := hR
        obtain ⟨j0, j1, j2, j3, j4, j5, j6, j7⟩ := hR'
        unfold vrule at CE
        have H1 := Lib.hid (fun w' (e : Ext _ w') => hS.ext (eb.trans e)); have H2 := Lib.hid (fun w' (e : Ext _ w') => hS'.ext (eb.trans e))
        clear h h' s1 s2 hS hS' hs hs'
        have HT := ht; clear ht
        go_wp2_with fail
        refine wp_region_quiet_below (by kernel_rfl) (by kernel_rfl) ?_
        repeat (go_big_quiet_step ((go_at_call 32; exact Calls.regrown_of (CE.out _ (H1.out _ (by first | assumption | exact Ext_regrown _ _ he)) (H2.out _ (by first | assumption | exact Ext_regrown _ _ he))))))
        refine wpQuiet_nil ?_
        rintro w1 ⟨⟨nq, osq⟩, hq⟩
        have ew1 := ext_of_q hq
        clear hq nq osq
        have he1 := he.trans ew1
        cases z
        · have NO' := Lib.hid (NO.out rfl); clear NO YES
          go_wp2
          go_ret
          exact ⟨ret_bool NO'.out.symm, eb.trans he1⟩
        · have YES' := Lib.hid (YES.out rfl); clear NO YES
          go_wp2
          go_roundw
          case rel => exact ⟨k+1, by omega, by go_num, YES'.out, he1⟩
          case measure => simp [intOf]; omega
      · have hk' : k = ds.length := by omega
        have HE : Hid (eqD ds es = true) := eqAll_all _ _ _ H.out (fun j h1 h2 => ht.out j h1 h2 (by omega))
        go_wp2
        go_ret
        exact ⟨ret_bool HE.out.symm, eb.trans he⟩
  · have hb1 : ((ds.length : Int) != (es.length : Int)) = true := by simp; omega
    have HE : Hid (eqD ds es = false) := eqAll_len _ _ _ hn
    go_enter Try.func15, Try.ntmps15
    go_wp2
    go_ret
    exact ⟨ret_bool HE.out.symm, eb⟩
end Go.Proofs.Ytophjmphjdhjoaa

/- Comparison of registries. -/
namespace Go.Proofs.Ytophjmphjdhjoaa
open Go.RowKit Go.Sort

end Go.Proofs.Ytophjmphjdhjoaa

/- The laws' sizes of descriptions and registries. -/
namespace Go.Proofs.Ytophjmphjdhjoaa
open Go.RowKit Go.Sort

theorem szN_spec (n : Nat) (left : Int) : (left - n < 0 ∧ szN n left = -1) ∨ (0 ≤ left - n ∧ szN n left = left - n) := by
  unfold szN; split
  · exact .inl ⟨by assumption, rfl⟩
  · exact .inr ⟨by omega, rfl⟩
end Go.Proofs.Ytophjmphjdhjoaa

/- The laws' copies, as what they read as. -/
namespace Go.Proofs.Ytophjmphjdhjoaa
open Go.RowKit Go.Sort

theorem rulesOf_len (ps : List RV) : (rulesOf ps).length = ps.length := by simp [rulesOf]
theorem OwnD.short {ps : List RV} (h : szD (rulesOf ps) ≤ 1048576) : ps.length ≤ 9223372036854775807 ∧ ∀ p ∈ ps, ShortR p.r := by
  refine ⟨by unfold szD at h; rw [rulesOf_len] at h; omega, fun p hp => ?_⟩
  exact shortD_of h p.r (List.mem_map_of_mem hp)
theorem szN_small {n : Nat} {left : Int} (h : ¬ szN n left < 0) (h1 : left ≤ 1048576) : n ≤ 1048576 := by have := (szN_ge h).1; omega
end Go.Proofs.Ytophjmphjdhjoaa

/- The laws' marks on slices of strings, tested; marks on descriptions, as the laws use them. -/
namespace Go.Proofs.Ytophjmphjdhjoaa
open Go.RowKit Go.Sort

theorem Box.wrote {w w' : World} {g : Nat} {cs : Array Value} {T : TypeId} (h : Box w g cs T) {lo hi : Nat} (hw : Wrote lo hi w w') (hg : g < lo ∨ hi ≤ g) : Box w' g cs T := (hw.block g h.lt hg).trans h
theorem RuleOwn.wrote {w0 w w' : World} {p : RV} (h : RuleOwn w0 w p) {lo hi : Nat} (hw : Wrote lo hi w w') (hv : ∀ v ∈ p.vals, ∀ g, v.ownBlock = some g → g < lo ∨ hi ≤ g) : RuleOwn w0 w' p :=
  ⟨h.b.wrote hw (hv _ (by simp [RV.vals])), h.n.wrote hw (hv _ (by simp [RV.vals])), h.t.wrote hw (hv _ (by simp [RV.vals])), h.k.wrote hw (hv _ (by simp [RV.vals]))⟩
theorem OwnD.wrote {w0 w w' : World} {v : Value} {ps : List RV} (h : OwnD w0 w v ps) {lo hi : Nat} (hw : Wrote lo hi w w') (hv : ∀ u ∈ v :: ps.flatMap RV.vals, ∀ g, u.ownBlock = some g → g < lo ∨ hi ≤ g) : OwnD w0 w' v ps :=
  ⟨h.row.wrote hw (hv _ (by simp)), fun p hp => (h.each p hp).wrote hw (fun u hu => hv u (List.mem_cons_of_mem _ (List.mem_flatMap.2 ⟨p, hp, hu⟩))), h.far⟩
/-- a description copied by a law: its blocks lie from lo on, below hi -/
structure DMade (lo hi : Nat) (w : World) (v : Value) (ps : List RV) : Prop where
  own : ∃ w0 : World, w0.heap.size = lo ∧ OwnD w0 w v ps
  blk : ∀ u ∈ v :: ps.flatMap RV.vals, ∀ b, u.ownBlock = some b → lo ≤ b ∧ b < hi
theorem DMade.ext {lo hi : Nat} {w w' : World} {v : Value} {ps : List RV} (h : DMade lo hi w v ps) (e : Ext w w') : DMade lo hi w' v ps := ⟨let ⟨w0, h0, h1⟩ := h.own; ⟨w0, h0, h1.ext e⟩, h.blk⟩
theorem DMade.wrote {lo hi lo' hi' : Nat} {w w' : World} {v : Value} {ps : List RV} (h : DMade lo hi w v ps) (hw : Wrote lo' hi' w w') (hd : hi ≤ lo' ∨ hi' ≤ lo) : DMade lo hi w' v ps :=
  ⟨let ⟨w0, h0, h1⟩ := h.own; ⟨w0, h0, h1.wrote hw (fun u hu g hg => by have := h.blk u hu g hg; omega)⟩, h.blk⟩
end Go.Proofs.Ytophjmphjdhjoaa

/- LostNames of the program and of the reference: the walks. -/
namespace Go.Proofs.Ytophjmphjdhjoaa
open Go.RowKit Go.Sort

set_option maxRecDepth 100000 in
set_option maxHeartbeats 4000000 in
theorem sLost_c (A A' : Option Addr) (a b : List DRule) (c c' : Nat) (ra rb : Int) (w : World) (ha : RdD w A a c) (hb : RdD w A' b c') (hsa : ShortD a) (hwa : WfD a) (hsb : ShortD b) (hwb : WfD b) (hL : szD a ≤ 1048576) :
    Calls Try.prog 10 #[vdesc (.slice A a.length c), .int .i64 ra, vdesc (.slice A' b.length c'), .int .i64 rb] w fun e w' => ∃ v, e = .returned v ∧ OwnL vstr 9 w w' v (lost a ra b rb) ∧ Ext w w' := by
  have hl := ha.len
  have hl' := hb.len
  have eb := Ext_alloc (.cells #[.slice A' b.length c'] 26) (Ext_alloc (.cells #[.slice A a.length c] 26) (Ext.refl w))
  have BX := fun w' (e : Ext ((w.alloc (.cells #[.slice A a.length c] 26)).alloc (.cells #[.slice A' b.length c'] 26)) w') => boxed2 e
  have B0 := fun w' e => (BX w' e).1
  have B1 := fun w' e => (BX w' e).2.1
  clear BX
  have CA := Lib.hid (fun w h => sKnown_c A a c ra w h hsa hwa)
  have CB := Lib.hid (fun w h => sKnown_c A' b c' rb w h hsb hwb)
  unfold vdesc at *
  obtain ⟨W0, hW0⟩ : ∃ W0, W0 = ((w.alloc (.cells #[.slice A a.length c] 26)).alloc (.cells #[.slice A' b.length c'] 26)) := ⟨_, rfl⟩
  rw [← hW0] at eb B0 B1
  have hs0 : W0.heap.size = w.heap.size + 1 + 1 := by rw [hW0]; simp
  have OE := OwnL.empty (f := vstr) (e := 9) (Ext.refl W0)
  rw [hs0] at OE
  have HOE := Lib.hid OE; have HW0 := Lib.hid hW0
  have x0 := Ext_alloc (.cells #[] 9) (Ext.refl W0)
  clear OE hW0 hs0
  cases hka : knownB a ra
  · have HE : Hid (lost a ra b rb = []) := by show _ = _; unfold lost; rw [hka]; rfl
    rw [hka] at CA; clear hka
    go_enter Try.func10, Try.ntmps10
    go_wp2_with fail
    rw [← HW0.out]
    refine (CA.out _ (ha.ext (eb.trans x0))).mono ?_; rintro _ w1 ⟨rfl, s1⟩
    have e1 := x0.trans s1
    go_wp2
    go_ret
    refine ⟨_, rfl, ?_, eb.trans (x0.trans s1)⟩
    rw [HE.out]; exact (HOE.out.ext s1).down eb.size
  cases hkb : knownB b rb
  · have HE : Hid (lost a ra b rb = []) := by show _ = _; unfold lost; rw [hka, hkb]; rfl
    rw [hka] at CA; clear hka
    rw [hkb] at CB; clear hkb
    go_enter Try.func10, Try.ntmps10
    go_wp2_with fail
    rw [← HW0.out]
    refine (CA.out _ (ha.ext (eb.trans x0))).mono ?_; rintro _ w1 ⟨rfl, s1⟩
    have e1 := x0.trans s1
    go_wp2_with fail
    refine (CB.out _ (hb.ext (eb.trans (x0.trans s1)))).mono ?_; rintro _ w2 ⟨rfl, s2⟩
    go_wp2
    go_ret
    refine ⟨_, rfl, ?_, eb.trans (x0.trans (s1.trans s2))⟩
    rw [HE.out]; exact (HOE.out.ext (s1.trans s2)).down eb.size
  obtain ⟨i, hi, rfl⟩ := knownB_at hka
  obtain ⟨j, hj, rfl⟩ := knownB_at hkb
  have HLV : Hid (lost a (i : Int) b (j : Int) = if a[i].kind = 6 then if b[j].kind = 6 then lostN a[i] b[j] else [] else []) := lost_at hka hkb hi hj
  have hln : a[i].names.length ≤ 1048576 := names_len hL (List.getElem_mem hi)
  rw [hka] at CA; clear hka
  rw [hkb] at CB; clear hkb
  obtain ⟨ba, oa, Ab, cb, An, cn, At, ct, Ak, ck, rfl, hba, hSa, hRa⟩ := ha.at i hi
  obtain ⟨bb, ob, Ab', cb', An', cn', At', ct', Ak', ck', rfl, hbb, hSb, hRb⟩ := hb.at j hj
  have hna := hSa.n.ext eb; have hnb := hSb.n.ext eb
  have HA := Lib.hid ha; have HB := Lib.hid hb
  generalize a[i] = p at *
  generalize b[j] = q at *
  obtain ⟨l0, l1, l2, l3, l4, l5, l6, l7⟩ := hRa.ext eb
  obtain ⟨m0, m1, m2, m3, m4, m5, m6, m7⟩ := hRb.ext eb
  have hkp := hna.len; have hkq := hnb.len
  clear ha hb hRa hRb hSa hSb l0 l2 l3 l4 l6 l7 m0 m2 m3 m4 m6 m7
  have CT := Lib.hid (fun s w h => sContains_c An' q.names cn' s w h)
  have HNB := Lib.hid hnb; clear hnb
  by_cases hp6 : ¬ p.kind = 6
  · have HE : Hid (lost a i b j = []) := by show _ = _; rw [HLV.out, if_neg hp6]
    go_enter Try.func10, Try.ntmps10
    go_wp2_with fail
    rw [← HW0.out]
    refine (CA.out _ (HA.out.ext (eb.trans x0))).mono ?_; rintro _ w1 ⟨rfl, s1⟩
    have e1 := x0.trans s1
    go_wp2_with fail
    refine (CB.out _ (HB.out.ext (eb.trans (x0.trans s1)))).mono ?_; rintro _ w2 ⟨rfl, s2⟩
    have e2 := x0.trans (s1.trans s2)
    go_wp2
    go_ret
    refine ⟨_, rfl, ?_, eb.trans (x0.trans (s1.trans s2))⟩
    rw [HE.out]; exact (HOE.out.ext (s1.trans s2)).down eb.size
  replace hp6 := Classical.not_not.1 hp6
  by_cases hq6 : ¬ q.kind = 6
  · have HE : Hid (lost a i b j = []) := by show _ = _; rw [HLV.out, if_pos hp6, if_neg hq6]
    go_enter Try.func10, Try.ntmps10
    go_wp2_with fail
    rw [← HW0.out]
    refine (CA.out _ (HA.out.ext (eb.trans x0))).mono ?_; rintro _ w1 ⟨rfl, s1⟩
    have e1 := x0.trans s1
    go_wp2_with fail
    refine (CB.out _ (HB.out.ext (eb.trans (x0.trans s1)))).mono ?_; rintro _ w2 ⟨rfl, s2⟩
    have e2 := x0.trans (s1.trans s2)
    go_wp2
    go_ret
    refine ⟨_, rfl, ?_, eb.trans (x0.trans (s1.trans s2))⟩
    rw [HE.out]; exact (HOE.out.ext (s1.trans s2)).down eb.size
  replace hq6 := Classical.not_not.1 hq6
  have HE : Hid (lost a i b j = lostN p q) := by show _ = _; rw [HLV.out, if_pos hp6, if_pos hq6]
  go_enter Try.func10, Try.ntmps10
  go_wp2_with fail
  rw [← HW0.out]
  refine (CA.out _ (HA.out.ext (eb.trans x0))).mono ?_; rintro _ w1 ⟨rfl, s1⟩
  have e1 := x0.trans s1
  go_wp2_with fail
  refine (CB.out _ (HB.out.ext (eb.trans (x0.trans s1)))).mono ?_; rintro _ w2 ⟨rfl, s2⟩
  have e2 := x0.trans (s1.trans s2)
  have HO1 := Lib.hid (HOE.out.ext (s1.trans s2))
  clear s1 s2 HOE CA CB HLV HA HB x0
  go_wp2
  go_loopw [9, 10] (fun t q' wr => ∃ k : Nat, k ≤ p.names.length ∧ q' = .int .i64 k ∧ Hid (OwnL vstr 9 W0 wr t ((p.names.take k).filter (fun s => !hasNm q.names s))) ∧ Ext W0 wr) (fun _ q' _ => p.names.length - (intOf q').toNat)
  case atStart => exact ⟨0, by omega, rfl, by simpa [Hid] using HO1.out, e2⟩
  case round =>
    clear HO1 e2
    obtain ⟨k, hk, rfl, ho, he⟩ := hrel
    by_cases hlt : k < p.names.length
    · obtain ⟨bn, on, rfl, hbn, hcn⟩ := hna.at k hlt
      have HY : Hid (hasNm q.names p.names[k] = false → (p.names.take k).filter (fun s => !hasNm q.names s) ++ [p.names[k]] = (p.names.take (k+1)).filter (fun s => !hasNm q.names s)) := by
        intro h; rw [List.take_succ_eq_append_getElem hlt, List.filter_append]; simp [h]
      have HN : Hid (hasNm q.names p.names[k] = true → (p.names.take k).filter (fun s => !hasNm q.names s) = (p.names.take (k+1)).filter (fun s => !hasNm q.names s)) := by
        intro h; rw [List.take_succ_eq_append_getElem hlt, List.filter_append]; simp [h]
      have hsl : ((p.names.take k).filter (fun s => !hasNm q.names s)).length ≤ k := by
        have h1 := List.length_filter_le (fun s => !hasNm q.names s) (p.names.take k); rw [List.length_take] at h1; omega
      have HB : Hid ((((p.names.take k).filter (fun s => !hasNm q.names s)).length + [p.names[k]].length) * 16 ≤ 140737488355328) := by show _ ≤ _; simp only [List.length_cons, List.length_nil]; omega
      generalize (p.names.take k).filter (fun s => !hasNm q.names s) = L at *
      obtain ⟨L', hL''⟩ : ∃ L', (p.names.take (k+1)).filter (fun s => !hasNm q.names s) = L' := ⟨_, rfl⟩
      rw [hL''] at HY HN
      have HLL := Lib.hid hL''; clear hL''
      have C := Lib.hid (fun w h => CT.out p.names[k] w h)
      generalize p.names[k] = x at *
      clear hna hsl
      generalize hasNm q.names x = z at *
      cases z
      · have HE := Lib.hid (HY.out rfl); clear HY HN
        go_wp2_with fail
        refine wp_region_quiet_below (by kernel_rfl) (by kernel_rfl) ?_
        repeat (go_big_quiet_step ((go_at_call 11; exact Calls.regrown_of (C.out _ (HNB.out.ext (by first | assumption | exact Ext_regrown _ _ he))))))
        refine wpQuiet_nil ?_
        rintro w3 ⟨⟨nq, osq⟩, hq⟩
        have ew3 := ext_of_q hq
        clear hq nq osq
        have s3 := ew3
        have HO := Lib.hid (ho.out.ext s3)
        have e3 := he.trans s3
        go_wp2_with (first
          | (at_builtin; go_must (refine wpList_appN rfl (.tmp 69) (.tmp 79) _ rfl E_str (by omega) W0 _ vstr (fun _ => rfl) _ rfl _ _ rfl L [x] _ rfl HO.out e3 rfl HB.out ?_); intro v1 w4 ho1 he1; rw [HE.out, ← HLL.out] at ho1))
        have H1 := Lib.hid ho1; clear ho1
        go_roundw
        case rel => exact ⟨k+1, by omega, by go_num, H1, he1⟩
        case measure => simp [intOf]; omega
      · have HE := Lib.hid (HN.out rfl); clear HY HN
        go_wp2_with fail
        refine wp_region_quiet_below (by kernel_rfl) (by kernel_rfl) ?_
        repeat (go_big_quiet_step ((go_at_call 11; exact Calls.regrown_of (C.out _ (HNB.out.ext (by first | assumption | exact Ext_regrown _ _ he))))))
        refine wpQuiet_nil ?_
        rintro w3 ⟨⟨nq, osq⟩, hq⟩
        have ew3 := ext_of_q hq
        clear hq nq osq
        have s3 := ew3
        have ho1 := ho.out.ext s3
        rw [HE.out, ← HLL.out] at ho1
        have H1 := Lib.hid ho1; clear ho1
        go_wp2
        go_roundw
        case rel => exact ⟨k+1, by omega, by go_num, H1, he.trans s3⟩
        case measure => simp [intOf]; omega
    · have HF : Hid ((p.names.take k).filter (fun s => !hasNm q.names s) = lostN p q) := by show _ = _; unfold lostN; rw [List.take_of_length_le (by omega)]
      go_wp2
      go_ret
      refine ⟨_, rfl, ?_, eb.trans he⟩
      rw [HE.out, ← HF.out]; exact ho.out.down eb.size
end Go.Proofs.Ytophjmphjdhjoaa

/- The walk of the law on DefaultedNames. -/
namespace Go.Proofs.Ytophjmphjdhjoaa
open Go.RowKit Go.Sort

set_option maxRecDepth 100000 in
theorem iDef_c (A A' : Option Addr) (a b : List DRule) (c c' : Nat) (ra rb : Int) (w : World) (ha : RdD w A a c) (hb : RdD w A' b c') (hsa : ShortD a) (hwa : WfD a) (hsb : ShortD b) (hwb : WfD b) (hL : szD b ≤ 1048576) :
    Calls Try.prog 8 #[vdesc (.slice A a.length c), .int .i64 ra, vdesc (.slice A' b.length c'), .int .i64 rb] w fun e w' => ∃ v, e = .returned v ∧ OwnL vstr 9 w w' v (lost b rb a ra) ∧ Ext w w' := by
  have eb := Ext_alloc (.cells #[.slice A' b.length c'] 26) (Ext_alloc (.cells #[.slice A a.length c] 26) (Ext.refl w))
  have BX := fun w' (e : Ext ((w.alloc (.cells #[.slice A a.length c] 26)).alloc (.cells #[.slice A' b.length c'] 26)) w') => boxed2 e
  have B0 := fun w' e => (BX w' e).1
  have B1 := fun w' e => (BX w' e).2.1
  clear BX
  have CA := Lib.hid (fun w h h' => iLost_c A' A b a c' c rb ra w h h' hsb hwb hsa hwa hL)
  unfold vdesc at *
  go_enter Try.func8, Try.ntmps8
  go_wp2_with fail
  refine (CA.out _ (hb.ext eb) (ha.ext eb)).mono ?_; rintro _ w1 ⟨v, rfl, ho, e1⟩
  go_wp2
  go_ret
  exact ⟨_, rfl, ho.down eb.size, eb.trans e1⟩
end Go.Proofs.Ytophjmphjdhjoaa

/- Draws of descriptions: DrawRenameRule. (Printed by gen/gx27.py.) -/
namespace Go.Proofs.Ytophjmphjdhjoaa
open Go.RowKit Go.Sort

set_option maxRecDepth 100000 in
set_option maxHeartbeats 8000000 in
theorem drawRename_c (A : Option Addr) (l : List UInt8) (c : Nat) (w : World) (hA : Bs w A l c) :
    Calls Try.prog 12 #[.slice A l.length c] w fun e w' => ∃ v ps s t, e = .returned (.tuple #[vdesc v, .string s, .string t]) ∧ SmD (rulesOf ps) ∧ OwnD w w' v ps ∧ s.size ≤ 60 ∧ t.size ≤ 60 ∧ Ext w w' := by
  have e0 := Ext_alloc (.cells #[.slice none 0 0] 26) (Ext.refl w)
  have HR := Lib.hid (Box.new w #[.slice none 0 0] 26)
  have CF := Lib.hid (fun w' h => drawFind_c A l c w' h)
  have CN := Lib.hid (fun w' h => l1New_c A l c w' h)
  unfold vdesc at CF
  go_enter Try.func12, Try.ntmps12
  go_wp2_with fail
  refine (CF.out _ (hA.ext e0)).mono ?_; rintro _ w2 ⟨v, ps, s, rfl, hV, hps6, hs, e2⟩
  obtain ⟨Ad, cd, hv⟩ := hV.own.shape
  subst hv
  have hs60 := Lib.hid hs; clear hs
  have hR2 := HR.out.ext e2
  have hRl := hR2.lt
  have x2 := Ext_alloc (.cells #[.slice Ad ps.length cd] 26) (Ext.refl w2)
  have e02 := (e0.trans e2).trans x2
  clear CF
  go_wp2_with fail
  refine (CN.out _ (hA.ext e02)).mono ?_; rintro _ w3 ⟨p, rfl, hC3⟩
  have hps := hC3.1
  rw [World.size_alloc] at hps
  have hC3' := hC3.lower' e02
  have S3 : Hid (DS w w w3 p A l c w2.heap.size (.slice Ad ps.length cd) ps w.heap.size) :=
    ⟨(Box.new w2 _ _).ext hC3.2.1, ((hV.own.ext x2).ext hC3.2.1).down e0.size, fun u hu b hb => by
      have h1 := hV.own.block u hu b hb
      rw [World.size_alloc] at h1
      exact ⟨by omega, by omega, by omega, by omega⟩, hC3', grown_ext (e02.trans hC3.2.1) _, by omega, by omega, by omega, (hR2.ext x2).ext hC3.2.1, by omega, by omega⟩
  have HSM := Lib.hid hV.small
  have cd3 : _ = some (Value.slice Ad ps.length cd) := S3.out.box.cell 0
  have hwp : w.heap.size ≤ p := by omega
  clear hV hR2 HR e0 e2 x2 e02 hC3 hC3' CN
  have SX := Lib.hid (S3.out.ext (Ext_drew (Ext.refl w3)))
  have HAB : lv2 (fun w' => w'.cell? ⟨w2.heap.size, 0, none⟩ = some (Value.slice Ad ps.length cd)) (fun _ => True) 2 w3.drew := ⟨SX.out.box.cell 0, trivial⟩
  go_wp2_with fail
  refine wp_region_C (C := fun j => lv2 (fun w' => w'.cell? ⟨w2.heap.size, 0, none⟩ = some (Value.slice Ad ps.length cd)) (fun _ => True) (([1, 0, 0, 0, 2, 2, 0, 0, 0] : List Nat).getD j 0)) (by kernel_rfl) ?_
  refine wpAnyC_take 0 (i := 1) (v := ?_) (lv2_mono _ _) rfl (by kernel_rfl) (by kernel_rfl) (by kernel_rfl) (by kernel_rfl) (by kernel_rfl) (fun _ _ _ h => h) trivial (Or.inl ⟨by rfl, ?_⟩) ?_
  rotate_left
  · (intro w hSw; clear hSw; go_simp; try with_reducible rfl)
  try simp only [Act.put, List.setIfInBounds_toArray, List.set_cons_zero, List.set_cons_succ]
  refine wpAnyC_take 0 (i := 2) (v := ?_) (lv2_mono _ _) rfl (by kernel_rfl) (by kernel_rfl) (by kernel_rfl) (by kernel_rfl) (by kernel_rfl) (fun _ _ _ h => h) trivial (Or.inl ⟨by rfl, ?_⟩) ?_
  rotate_left
  · (intro w hSw; clear hSw; go_simp; try with_reducible rfl)
  try simp only [Act.put, List.setIfInBounds_toArray, List.set_cons_zero, List.set_cons_succ]
  refine wpAnyC_take 0 (i := 3) (v := ?_) (lv2_mono _ _) rfl (by kernel_rfl) (by kernel_rfl) (by kernel_rfl) (by kernel_rfl) (by kernel_rfl) (fun _ _ _ h => h) trivial (Or.inl ⟨by rfl, ?_⟩) ?_
  rotate_left
  · (intro w hSw; clear hSw; go_simp; try with_reducible rfl)
  try simp only [Act.put, List.setIfInBounds_toArray, List.set_cons_zero, List.set_cons_succ]
  refine wpAnyC_take 1 (i := 0) (v := ?_) (lv2_mono _ _) rfl (by kernel_rfl) (by kernel_rfl) (by kernel_rfl) (by kernel_rfl) (by kernel_rfl) (fun _ _ _ h => h) (And.left HAB) (Or.inl ⟨by rfl, ?_⟩) ?_
  rotate_left
  · (intro w hSw; have hfact : w.cell? ⟨w2.heap.size, 0, none⟩ = some (Value.slice Ad ps.length cd) := hSw; clear hSw; go_simp; try with_reducible rfl)
  try simp only [Act.put, List.setIfInBounds_toArray, List.set_cons_zero, List.set_cons_succ]
  refine wpAnyC_one (i := 4) (by kernel_rfl) rfl (fun K hK => ?_)
  go_simp
  have SL := Lib.hid (SX.out.ext (Ext_alloc (.cells #[.string ⟨#[122, 57]⟩, .string ⟨#[97, 48]⟩, .string s, .string ⟨#[]⟩, .string ⟨#[65]⟩] 9) (Ext.refl _)))
  refine Shut.out hK _ _ ⟨SL.out.box.cell 0, trivial⟩ ?_
  try simp only [Act.put, List.setIfInBounds_toArray, List.set_cons_zero, List.set_cons_succ]
  refine wpAnyC_one (i := 5) (by kernel_rfl) rfl (fun K hK => ?_)
  go_simp
  go_at_call 26
  refine (l1StrBox_c [⟨#[122, 57]⟩, ⟨#[97, 48]⟩, s, ⟨#[]⟩, ⟨#[65]⟩] (by simp) (by simp) 5 rfl #[.string ⟨#[122, 57]⟩, .string ⟨#[97, 48]⟩, .string s, .string ⟨#[]⟩, .string ⟨#[65]⟩] rfl w _ p A l c hA _ SL.out.cur (by first | (refine Box.newd' _ _ _ _ ?_; first | rfl | (simp; done)) | (refine Box.new' _ _ _ _ ?_; first | rfl | (simp; done)))).mono ?_
  rintro _ w5 ⟨t, ht, rfl, hC5, hg5⟩
  have S5 := Lib.hid (DS.moved SL.out hC5 hg5)
  have ht60 : Hid (t.size ≤ 60) := by
    show _ ≤ _
    have hs := hs60.out
    simp only [List.mem_cons, List.not_mem_nil, or_false] at ht
    rcases ht with h | h | h | h | h <;> rw [h] <;> first | exact hs | decide
  clear ht hC5 hg5
  have cr5 : _ = some (Value.slice none 0 0) := S5.out.res.cell 0
  have yr5 := S5.out.res.free 0
  refine Shut.out hK _ _ ⟨S5.out.box.cell 0, trivial⟩ ?_
  try simp only [Act.put, List.setIfInBounds_toArray, List.set_cons_zero, List.set_cons_succ]
  refine wpAnyC_one (i := 6) (by kernel_rfl) rfl (fun K hK => ?_)
  go_simp
  refine Shut.out hK _ _ trivial ?_
  try simp only [Act.put, List.setIfInBounds_toArray, List.set_cons_zero, List.set_cons_succ]
  refine wpAnyC_one (i := 7) (by kernel_rfl) rfl (fun K hK => ?_)
  go_simp
  refine Shut.out hK _ _ trivial ?_
  try simp only [Act.put, List.setIfInBounds_toArray, List.set_cons_zero, List.set_cons_succ]
  refine wpAnyC_one (i := 8) (by kernel_rfl) rfl (fun K hK => ?_)
  go_simp
  refine Shut.out hK _ _ trivial ?_
  try simp only [Act.put, List.setIfInBounds_toArray, List.set_cons_zero, List.set_cons_succ]
  refine wpAnyC_done (by kernel_rfl) ?_ _
  have OUT : Hid (OwnD w (w5.setCell ⟨w.heap.size, 0, none⟩ (Value.slice Ad ps.length cd)) (Value.slice Ad ps.length cd) ps ∧ (∀ u ∈ (Value.slice Ad ps.length cd) :: ps.flatMap RV.vals, ∀ b, u.ownBlock = some b → w.heap.size ≤ b) ∧ Cur w (w5.setCell ⟨w.heap.size, 0, none⟩ (Value.slice Ad ps.length cd)) p A l c ∧ w.grownBy (w5.setCell ⟨w.heap.size, 0, none⟩ (Value.slice Ad ps.length cd)) (some p)) := DS.finish S5.out (Nat.le_refl _)
  have z9 : (w5.setCell ⟨w.heap.size, 0, none⟩ (Value.slice Ad ps.length cd)).cell? ⟨w.heap.size, 0, none⟩ = some (Value.slice Ad ps.length cd) := World.cell?_setCell_same _ _ _ cr5
  clear SL S5 SX HAB S3 cd3 cr5 yr5
  have HEX : Hid (Ext w (w5.setCell ⟨w.heap.size, 0, none⟩ (Value.slice Ad ps.length cd))) := Ext.grown (Ext.refl w) OUT.out.2.2.2 (fun k hk => by injection hk with hk; omega)
  go_wp2_with fail
  refine bodyPost_ret (v := .tuple #[vdesc (Value.slice Ad ps.length cd), .string s, .string t]) (by simp [results, Try.results12, go_sem, z9, vdesc]) rfl ?_
  first
    | exact ⟨_, ps, s, t, rfl, HSM.out, OUT.out.1, hs60.out, ht60.out, HEX.out⟩
    | exact ⟨_, rfl, ps, s, t, HSM.out, OUT.out.1, hs60.out, ht60.out, HEX.out⟩
end Go.Proofs.Ytophjmphjdhjoaa

/- RenameRule of the program and of the reference: the walks. -/
namespace Go.Proofs.Ytophjmphjdhjoaa
open Go.RowKit Go.Sort

def nmR (r : DRule) (t : ByteArray) : DRule := { r with nm := t }
def nmV (p : RV) (t : ByteArray) : RV := { p with r := nmR p.r t }
def setNm (ds : List DRule) (k : Nat) (t : ByteArray) : List DRule := ds.set k (nmR (ds.getD k ⟨⟨#[]⟩, 0, 0, false, [], [], [], []⟩) t)
def setNmV (ps : List RV) (k : Nat) (t : ByteArray) : List RV := ps.set k (nmV (ps.getD k ⟨⟨⟨#[]⟩, 0, 0, false, [], [], [], []⟩, undef, undef, undef, undef⟩) t)
def renOk (ds : List DRule) (f t : ByteArray) : Bool := decide (0 ≤ findR ds f) && descOk (setNm ds (findR ds f).toNat t)
def renD (ds : List DRule) (f t : ByteArray) : List DRule := if renOk ds f t then setNm ds (findR ds f).toNat t else ds
theorem cells_set : ∀ (ps : List RV) (k : Nat) (h : k < ps.length) (t : ByteArray), (ps.flatMap RV.cells).set (k * 8) (.string t) = (ps.set k (nmV ps[k] t)).flatMap RV.cells := by
  intro ps
  induction ps with
  | nil => intro k h; simp at h
  | cons p s ih =>
    intro k h t
    cases k with
    | zero => simp [RV.cells, nmV, nmR, List.flatMap_cons]
    | succ k =>
      have h' : k < s.length := by simpa using h
      rw [List.flatMap_cons, List.set_append_right _ _ (by simp [RV.cells]; omega)]
      rw [show (k + 1) * 8 - p.cells.length = k * 8 by simp [RV.cells]; omega, ih k h' t]
      simp [List.flatMap_cons]
theorem vals_set (ps : List RV) (k : Nat) (h : k < ps.length) (t : ByteArray) : (ps.set k (nmV ps[k] t)).flatMap RV.vals = ps.flatMap RV.vals := by
  induction ps generalizing k with
  | nil => simp at h
  | cons p s ih =>
    cases k with
    | zero => simp [RV.vals, nmV, List.flatMap_cons]
    | succ k => simp only [List.set_cons_succ, List.flatMap_cons, List.getElem_cons_succ]; rw [ih k (by simpa using h)]
theorem setNmV_eq {ps : List RV} {k : Nat} (h : k < ps.length) (t : ByteArray) : setNmV ps k t = ps.set k (nmV ps[k] t) := by unfold setNmV; simp [h]
theorem rules_set {ps : List RV} {k : Nat} (h : k < ps.length) (t : ByteArray) : rulesOf (setNmV ps k t) = setNm (rulesOf ps) k t := by
  rw [setNmV_eq h]; unfold setNm rulesOf; rw [List.map_set]; simp [h, nmV]
theorem setNm_len (ds : List DRule) (k : Nat) (t : ByteArray) : (setNm ds k t).length = ds.length := by unfold setNm; simp
theorem mem_setNm {ds : List DRule} {k : Nat} (h : k < ds.length) {t : ByteArray} {q : DRule} (hq : q ∈ setNm ds k t) : q ∈ ds ∨ q = nmR ds[k] t := by
  unfold setNm at hq
  rcases List.mem_or_eq_of_mem_set hq with h1 | h1
  · exact .inl h1
  · right; rw [h1]; simp [h]
theorem short_setNm {ds : List DRule} {k : Nat} (h : k < ds.length) {t : ByteArray} (hs : ShortD ds) : ShortD (setNm ds k t) := fun q hq => by
  rcases mem_setNm h hq with h1 | rfl
  · exact hs q h1
  · exact hs ds[k] (List.getElem_mem h)
theorem wf_setNm {ds : List DRule} {k : Nat} (h : k < ds.length) {t : ByteArray} (ht : t.size ≤ 9223372036854775807) (hs : WfD ds) : WfD (setNm ds k t) := fun q hq => by
  rcases mem_setNm h hq with h1 | rfl
  · exact hs q h1
  · have := hs ds[k] (List.getElem_mem h)
    exact ⟨ht, this.names, this.kind, this.size, this.tags, this.kids⟩
theorem far_parts' {v : Value} {ps : List RV} (h : Far (v :: ps.flatMap RV.vals)) : (∀ q ∈ ps, ∀ u ∈ q.vals, ∀ g, v.ownBlock = some g → u.ownBlock ≠ some g) ∧ True ∧ True := by
  unfold Far at h
  rw [List.pairwise_cons] at h
  exact ⟨fun q hq u hu g hg => h.1 u (List.mem_flatMap.2 ⟨q, hq, hu⟩) g hg, trivial, trivial⟩
theorem OwnD.setNm {w0 w : World} {g c : Nat} {ps : List RV} (h : OwnD w0 w (.slice (some ⟨g, 0, none⟩) ps.length c) ps) {k : Nat} (hk : k < ps.length) (t : ByteArray) :
    OwnD w0 (w.setCell ⟨g, k * 8, none⟩ (.string t)) (.slice (some ⟨g, 0, none⟩) ps.length c) (setNmV ps k t) := by
  rw [setNmV_eq hk]
  obtain ⟨f1, _, _⟩ := far_parts' h.far
  refine ⟨?_, fun p hp => ?_, ?_⟩
  · have := (h.row.stored (k * 8) (.string t)).1
    rw [cells_set ps k hk t] at this
    rw [List.length_set]; exact this
  · have hkeep : ∀ q ∈ ps, RuleOwn w0 (w.setCell ⟨g, k * 8, none⟩ (.string t)) q := fun q hq => (h.each q hq).keep (grown_set w ⟨g, k * 8, none⟩ _) (fun u hu b hb hh => by
      injection hh with hh
      exact f1 q hq u hu g rfl (by rw [hb]; exact congrArg some hh.symm))
    rcases List.mem_or_eq_of_mem_set hp with h1 | rfl
    · exact hkeep p h1
    · have := hkeep ps[k] (List.getElem_mem hk)
      exact ⟨this.b, this.n, this.t, this.k⟩
  · rw [vals_set ps k hk t]; exact h.far
set_option maxRecDepth 100000 in
set_option maxHeartbeats 8000000 in
theorem sRen_c (A : Option Addr) (ds : List DRule) (c : Nat) (f t : ByteArray) (w : World) (h : RdD w A ds c) (hz : szD ds ≤ 1048576) (hw : WfD ds) (ht : t.size ≤ 9223372036854775807) :
    Calls Try.prog 14 #[vdesc (.slice A ds.length c), .string f, .string t] w fun e w' => ∃ v ps, e = .returned (.tuple #[vdesc v, .bool (renOk ds f t)]) ∧ rulesOf ps = renD ds f t ∧ OwnD w w' v ps ∧ Ext w w' := by
  have hn : ds.length ≤ 1048576 := by unfold szD at hz; omega
  obtain ⟨W0, HW0, HP, HR, e0, hsA⟩ := boxes2' w #[.slice A ds.length c] #[.slice none 0 0] 26 26
  have HSA := Lib.hid hsA; clear hsA
  have CC := Lib.hid (fun w h => sCopyD_c A ds c w h hz)
  have CF := Lib.hid (fun w h => sFind_c A ds c f w h)
  have CV := Lib.hid (fun A' ds' c' w' h hs hw => sValidDesc_c A' ds' c' w' h hs hw)
  have HH := Lib.hid h; have HSH := Lib.hid (shortD_of hz); have HWf := Lib.hid hw
  have hfl := findR_lt ds f
  have HOKE := Lib.hid (rfl : renOk ds f t = renOk ds f t)
  unfold vdesc at *
  clear h hw
  have hrb : W0.heap.size = w.heap.size + 2 := HSA.out
  by_cases hfn : findR ds f < 0
  · have HE : Hid (renOk ds f t = false) := by show _ = _; unfold renOk; rw [decide_eq_false (by omega)]; rfl
    have HD : Hid (renD ds f t = ds) := by show _ = _; unfold renD; rw [HE.out]; rfl
    rw [HE.out]
    have dfn : decide (findR ds f < 0) = true := decide_eq_true hfn
    generalize findR ds f = k at *
    go_enter Try.func14, Try.ntmps14
    go_wp2_with fail
    rw [← HW0.out]
    refine (CC.out _ (HH.out.ext e0)).mono ?_; rintro _ w1 ⟨v, ps, rfl, hps, ho, s1⟩
    obtain ⟨A1, c1, hv⟩ := ho.shape
    subst hv
    have x1 := Ext_alloc (.cells #[.slice A1 ps.length c1] 26) (Ext.refl w1)
    have p1 : _ = some (Value.slice A ds.length c) := ((HP.ext s1).ext x1).cell 0
    go_wp2_with fail
    refine (CF.out _ (HH.out.ext ((e0.trans s1).trans x1))).mono ?_; rintro _ w2 ⟨rfl, s2⟩
    have b8 := ((Box.new w1 #[.slice A1 ps.length c1] 26).ext s2).cell 0
    have e2 := ((e0.trans s1).trans x1).trans s2
    have hr2 := ((HR.ext s1).ext x1).ext s2
    have r6 := hr2.cell 0; have f6 := hr2.free 0
    have b8 : _ = some (Value.slice A1 ps.length c1) := b8
    have HO2 := Lib.hid ((ho.ext x1).ext s2)
    have G := grown_set w2 ⟨w.heap.size + 1, 0, none⟩ (.slice A1 ps.length c1)
    have D5 : Hid (OwnD w (w2.setCell ⟨w.heap.size + 1, 0, none⟩ (.slice A1 ps.length c1)) (.slice A1 ps.length c1) ps) := (HO2.out.keep G (fun u hu g hg hh => by have h1 := (HO2.out.block u hu g hg).1; injection hh with hh; simp at hh; omega)).down e0.size
    have E5 : Hid (Ext w (w2.setCell ⟨w.heap.size + 1, 0, none⟩ (.slice A1 ps.length c1))) := e2.setCell (p := ⟨w.heap.size + 1, 0, none⟩) (by show w.heap.size ≤ w.heap.size + 1; omega) _
    have z5 : (w2.setCell ⟨w.heap.size + 1, 0, none⟩ (.slice A1 ps.length c1)).cell? ⟨w.heap.size + 1, 0, none⟩ = some (.slice A1 ps.length c1) := World.cell?_setCell_same _ _ _ r6
    have HN := Lib.hid hps
    clear ho HO2 G
    go_wp2
    exact bodyPost_ret (v := .tuple #[.agg #[.slice A1 ps.length c1], .bool false]) (by simp [results, Try.results14, go_sem, z5]) rfl ⟨_, ps, rfl, by rw [HD.out]; exact HN.out, D5.out, E5.out⟩
  obtain ⟨k, hk⟩ : ∃ k : Nat, findR ds f = (k : Int) := ⟨(findR ds f).toNat, by omega⟩
  have hkn : k < ds.length := by omega
  have HE : Hid (renOk ds f t = descOk (setNm ds k t)) := by show _ = _; unfold renOk; rw [hk, decide_eq_true (by omega)]; rfl
  have HD : Hid (renD ds f t = if descOk (setNm ds k t) = true then setNm ds k t else ds) := by show _ = _; unfold renD; rw [HE.out, hk]; rfl
  have dfn : decide ((k : Int) < 0) = false := decide_eq_false (by omega)
  rw [HE.out]
  have HSN := Lib.hid (short_setNm hkn HSH.out (t := t)); have HWN := Lib.hid (wf_setNm hkn ht HWf.out)
  rw [hk] at CF
  clear hfn hfl HE hk
  have HLN := Lib.hid (setNm_len ds k t)
  obtain ⟨ds2, hds2⟩ : ∃ ds2, setNm ds k t = ds2 := ⟨_, rfl⟩
  rw [hds2] at HD HSN HWN HLN ⊢
  have HD2 := Lib.hid hds2; clear hds2
  generalize hz2 : descOk ds2 = z at *
  have HZ2 := Lib.hid hz2; clear hz2
  go_enter Try.func14, Try.ntmps14
  go_wp2_with fail
  rw [← HW0.out]
  refine (CC.out _ (HH.out.ext e0)).mono ?_; rintro _ w1 ⟨v, ps, rfl, hps, ho, s1⟩
  have hpl : ps.length = ds.length := by rw [← hps]; simp [rulesOf]
  have hkp : k < ps.length := by omega
  obtain ⟨g, c1, hv⟩ : ∃ g c1, v = .slice (some ⟨g, 0, none⟩) ps.length c1 := by
    rcases ho.row.2 with ⟨_, h0⟩ | ⟨g, cap, cur, hv, _⟩
    · omega
    · exact ⟨g, cap, hv⟩
  subst hv
  have hglt := World.ownsRow.lt ho.row g rfl
  have x1 := Ext_alloc (.cells #[.slice (some ⟨g, 0, none⟩) ps.length c1] 26) (Ext.refl w1)
  have p1 : _ = some (Value.slice A ds.length c) := ((HP.ext s1).ext x1).cell 0
  have HPL := Lib.hid hpl; clear hpl
  go_wp2_with fail
  refine (CF.out _ (HH.out.ext ((e0.trans s1).trans x1))).mono ?_; rintro _ w2 ⟨rfl, s2⟩
  have HB8 := (Box.new w1 #[.slice (some ⟨g, 0, none⟩) ps.length c1] 26).ext s2
  have b8 : _ = some (Value.slice (some ⟨g, 0, none⟩) ps.length c1) := HB8.cell 0
  have e2 := ((e0.trans s1).trans x1).trans s2
  have HO2 := (ho.ext x1).ext s2
  have hln : (ps.flatMap RV.cells).length = ps.length * 8 := HO2.row.1
  obtain ⟨⟨u0, hu0⟩, hf0⟩ := HO2.row.slot (k * 8) (by rw [hln]; omega)
  have D3 := HO2.setNm hkp t
  have G3 := grown_set w2 ⟨g, k * 8, none⟩ (.string t)
  have e3 : Ext w (w2.setCell ⟨g, k * 8, none⟩ (.string t)) := e2.setCell (p := ⟨g, k * 8, none⟩) (by show w.heap.size ≤ g; omega) _
  have B83 := HB8.other (g' := g) (by omega) (k * 8) (.string t)
  have P3 := (((HP.ext s1).ext x1).ext s2).other (g' := g) (by omega) (k * 8) (.string t)
  have R3 := (((HR.ext s1).ext x1).ext s2).other (g' := g) (by omega) (k * 8) (.string t)
  have hr2 : rulesOf (setNmV ps k t) = ds2 := by rw [rules_set hkp, hps]; exact HD2.out
  have hb1 : (k : Int) < (ps.length : Int) := by omega
  have HD3 := Lib.hid D3; have HR2 := Lib.hid hr2
  clear D3 HO2 G3 ho HB8 hln hr2 HP HR x1 s1 s2 e2
  have b83 : _ = some (Value.slice (some ⟨g, 0, none⟩) ps.length c1) := B83.cell 0
  go_wp2_with fail
  generalize w2.setCell ⟨g, k * 8, none⟩ (.string t) = w3 at *
  clear hu0 hf0 b8
  have hl2 : ds2.length = ps.length := by have := HLN.out; have := HPL.out; omega
  have RD : Hid (RdD w3 (some ⟨g, 0, none⟩) ds2 c1) := by
    obtain ⟨A', c', hv, hR⟩ := HD3.out.rd (by rw [← HR2.out] at hl2; simp [rulesOf] at hl2; have := HPL.out; omega) (fun p hp => HSN.out p.r (by rw [← HR2.out]; exact List.mem_map_of_mem hp))
    rw [HR2.out] at hR hv
    injection hv with q1 _ q2
    subst q1; subst q2; exact hR
  have C3 := CV.out (some ⟨g, 0, none⟩) ds2 c1 w3 RD.out HSN.out HWN.out
  rw [HZ2.out, hl2] at C3
  refine C3.mono ?_; rintro _ w4 ⟨rfl, s4⟩
  have e4 := e3.trans s4
  have B84 := B83.ext s4; have P4 := P3.ext s4; have R4 := R3.ext s4
  have HD4 := Lib.hid (HD3.out.ext s4)
  have r6 : _ = some (Value.slice none 0 0) := R4.cell 0
  have f6 := R4.free 0
  clear C3 RD hl2 B83 P3 R3 HD3 e3 s4 b83
  cases z
  · have p4 : _ = some (Value.slice A ds.length c) := P4.cell 0
    go_wp2_with fail
    refine (CC.out _ (HH.out.ext e4)).mono ?_; rintro _ w5 ⟨v5, ps5, rfl, hps5, ho5, s5⟩
    obtain ⟨A5, c5, hv5⟩ := ho5.shape
    subst hv5
    have R5 := R4.ext s5
    have r7 : _ = some (Value.slice none 0 0) := R5.cell 0
    have f7 := R5.free 0
    have hr4 := R4.lt
    have G := grown_set w5 ⟨w.heap.size + 1, 0, none⟩ (.slice A5 ps5.length c5)
    have D5 : Hid (OwnD w (w5.setCell ⟨w.heap.size + 1, 0, none⟩ (.slice A5 ps5.length c5)) (.slice A5 ps5.length c5) ps5) := (ho5.keep G (fun u hu g hg hh => by have h1 := (ho5.block u hu g hg).1; injection hh with hh; simp at hh; omega)).down e4.size
    have E5 : Hid (Ext w (w5.setCell ⟨w.heap.size + 1, 0, none⟩ (.slice A5 ps5.length c5))) := (e4.trans s5).setCell (p := ⟨w.heap.size + 1, 0, none⟩) (by show w.heap.size ≤ w.heap.size + 1; omega) _
    have z5 : (w5.setCell ⟨w.heap.size + 1, 0, none⟩ (.slice A5 ps5.length c5)).cell? ⟨w.heap.size + 1, 0, none⟩ = some (.slice A5 ps5.length c5) := World.cell?_setCell_same _ _ _ r7
    have HN : Hid (rulesOf ps5 = renD ds f t) := by show _ = _; rw [HD.out, if_neg (by simp)]; exact hps5
    clear ho5 G r6 f6
    go_wp2
    exact bodyPost_ret (v := .tuple #[.agg #[.slice A5 ps5.length c5], .bool false]) (by simp [results, Try.results14, go_sem, z5]) rfl ⟨_, ps5, rfl, HN.out, D5.out, E5.out⟩
  · have b8 : _ = some (Value.slice (some ⟨g, 0, none⟩) ps.length c1) := B84.cell 0
    have G := grown_set w4 ⟨w.heap.size + 1, 0, none⟩ (.slice (some ⟨g, 0, none⟩) ps.length c1)
    have D5 : Hid (OwnD w (w4.setCell ⟨w.heap.size + 1, 0, none⟩ (.slice (some ⟨g, 0, none⟩) ps.length c1)) (.slice (some ⟨g, 0, none⟩) ps.length c1) (setNmV ps k t)) := (HD4.out.keep G (fun u hu g hg hh => by have h1 := (HD4.out.block u hu g hg).1; injection hh with hh; simp at hh; omega)).down e0.size
    have E5 : Hid (Ext w (w4.setCell ⟨w.heap.size + 1, 0, none⟩ (.slice (some ⟨g, 0, none⟩) ps.length c1))) := e4.setCell (p := ⟨w.heap.size + 1, 0, none⟩) (by show w.heap.size ≤ w.heap.size + 1; omega) _
    have z5 : (w4.setCell ⟨w.heap.size + 1, 0, none⟩ (.slice (some ⟨g, 0, none⟩) ps.length c1)).cell? ⟨w.heap.size + 1, 0, none⟩ = some (.slice (some ⟨g, 0, none⟩) ps.length c1) := World.cell?_setCell_same _ _ _ r6
    have HN : Hid (rulesOf (setNmV ps k t) = renD ds f t) := by show _ = _; rw [HD.out, if_pos rfl]; exact HR2.out
    clear HD4 G
    go_wp2
    exact bodyPost_ret (v := .tuple #[.agg #[.slice (some ⟨g, 0, none⟩) ps.length c1], .bool true]) (by simp [results, Try.results14, go_sem, z5]) rfl ⟨_, setNmV ps k t, rfl, HN.out, D5.out, E5.out⟩
set_option maxRecDepth 100000 in
set_option maxHeartbeats 8000000 in
theorem iRen_c (A : Option Addr) (ds : List DRule) (c : Nat) (f t : ByteArray) (w : World) (h : RdD w A ds c) (hz : szD ds ≤ 1048576) (hw : WfD ds) (ht : t.size ≤ 9223372036854775807) :
    Calls Try.prog 13 #[vdesc (.slice A ds.length c), .string f, .string t] w fun e w' => ∃ v ps, e = .returned (.tuple #[vdesc v, .bool (renOk ds f t)]) ∧ rulesOf ps = renD ds f t ∧ OwnD w w' v ps ∧ Ext w w' := by
  have hn : ds.length ≤ 1048576 := by unfold szD at hz; omega
  obtain ⟨W0, HW0, HP, HR, e0, hsA⟩ := boxes2' w #[.slice A ds.length c] #[.slice none 0 0] 26 26
  have HSA := Lib.hid hsA; clear hsA
  have CC := Lib.hid (fun w h => iCopyD_c A ds c w h hz)
  have CF := Lib.hid (fun w h => iFind_c A ds c f w h)
  have CV := Lib.hid (fun A' ds' c' w' h hs hw => iValidDesc_c A' ds' c' w' h hs hw)
  have HH := Lib.hid h; have HSH := Lib.hid (shortD_of hz); have HWf := Lib.hid hw
  have hfl := findR_lt ds f
  have HOKE := Lib.hid (rfl : renOk ds f t = renOk ds f t)
  unfold vdesc at *
  clear h hw
  have hrb : W0.heap.size = w.heap.size + 2 := HSA.out
  by_cases hfn : findR ds f < 0
  · have HE : Hid (renOk ds f t = false) := by show _ = _; unfold renOk; rw [decide_eq_false (by omega)]; rfl
    have HD : Hid (renD ds f t = ds) := by show _ = _; unfold renD; rw [HE.out]; rfl
    rw [HE.out]
    have dfn : decide (findR ds f < 0) = true := decide_eq_true hfn
    generalize findR ds f = k at *
    go_enter Try.func13, Try.ntmps13
    go_wp2_with fail
    rw [← HW0.out]
    refine (CC.out _ (HH.out.ext e0)).mono ?_; rintro _ w1 ⟨v, ps, rfl, hps, ho, s1⟩
    obtain ⟨A1, c1, hv⟩ := ho.shape
    subst hv
    have x1 := Ext_alloc (.cells #[.slice A1 ps.length c1] 26) (Ext.refl w1)
    have p1 : _ = some (Value.slice A ds.length c) := ((HP.ext s1).ext x1).cell 0
    go_wp2_with fail
    refine (CF.out _ (HH.out.ext ((e0.trans s1).trans x1))).mono ?_; rintro _ w2 ⟨rfl, s2⟩
    have b8 := ((Box.new w1 #[.slice A1 ps.length c1] 26).ext s2).cell 0
    have e2 := ((e0.trans s1).trans x1).trans s2
    have hr2 := ((HR.ext s1).ext x1).ext s2
    have r6 := hr2.cell 0; have f6 := hr2.free 0
    have b8 : _ = some (Value.slice A1 ps.length c1) := b8
    have HO2 := Lib.hid ((ho.ext x1).ext s2)
    have G := grown_set w2 ⟨w.heap.size + 1, 0, none⟩ (.slice A1 ps.length c1)
    have D5 : Hid (OwnD w (w2.setCell ⟨w.heap.size + 1, 0, none⟩ (.slice A1 ps.length c1)) (.slice A1 ps.length c1) ps) := (HO2.out.keep G (fun u hu g hg hh => by have h1 := (HO2.out.block u hu g hg).1; injection hh with hh; simp at hh; omega)).down e0.size
    have E5 : Hid (Ext w (w2.setCell ⟨w.heap.size + 1, 0, none⟩ (.slice A1 ps.length c1))) := e2.setCell (p := ⟨w.heap.size + 1, 0, none⟩) (by show w.heap.size ≤ w.heap.size + 1; omega) _
    have z5 : (w2.setCell ⟨w.heap.size + 1, 0, none⟩ (.slice A1 ps.length c1)).cell? ⟨w.heap.size + 1, 0, none⟩ = some (.slice A1 ps.length c1) := World.cell?_setCell_same _ _ _ r6
    have HN := Lib.hid hps
    clear ho HO2 G
    go_wp2
    exact bodyPost_ret (v := .tuple #[.agg #[.slice A1 ps.length c1], .bool false]) (by simp [results, Try.results13, go_sem, z5]) rfl ⟨_, ps, rfl, by rw [HD.out]; exact HN.out, D5.out, E5.out⟩
  obtain ⟨k, hk⟩ : ∃ k : Nat, findR ds f = (k : Int) := ⟨(findR ds f).toNat, by omega⟩
  have hkn : k < ds.length := by omega
  have HE : Hid (renOk ds f t = descOk (setNm ds k t)) := by show _ = _; unfold renOk; rw [hk, decide_eq_true (by omega)]; rfl
  have HD : Hid (renD ds f t = if descOk (setNm ds k t) = true then setNm ds k t else ds) := by show _ = _; unfold renD; rw [HE.out, hk]; rfl
  have dfn : decide ((k : Int) < 0) = false := decide_eq_false (by omega)
  rw [HE.out]
  have HSN := Lib.hid (short_setNm hkn HSH.out (t := t)); have HWN := Lib.hid (wf_setNm hkn ht HWf.out)
  rw [hk] at CF
  clear hfn hfl HE hk
  have HLN := Lib.hid (setNm_len ds k t)
  obtain ⟨ds2, hds2⟩ : ∃ ds2, setNm ds k t = ds2 := ⟨_, rfl⟩
  rw [hds2] at HD HSN HWN HLN ⊢
  have HD2 := Lib.hid hds2; clear hds2
  generalize hz2 : descOk ds2 = z at *
  have HZ2 := Lib.hid hz2; clear hz2
  go_enter Try.func13, Try.ntmps13
  go_wp2_with fail
  rw [← HW0.out]
  refine (CC.out _ (HH.out.ext e0)).mono ?_; rintro _ w1 ⟨v, ps, rfl, hps, ho, s1⟩
  have hpl : ps.length = ds.length := by rw [← hps]; simp [rulesOf]
  have hkp : k < ps.length := by omega
  obtain ⟨g, c1, hv⟩ : ∃ g c1, v = .slice (some ⟨g, 0, none⟩) ps.length c1 := by
    rcases ho.row.2 with ⟨_, h0⟩ | ⟨g, cap, cur, hv, _⟩
    · omega
    · exact ⟨g, cap, hv⟩
  subst hv
  have hglt := World.ownsRow.lt ho.row g rfl
  have x1 := Ext_alloc (.cells #[.slice (some ⟨g, 0, none⟩) ps.length c1] 26) (Ext.refl w1)
  have p1 : _ = some (Value.slice A ds.length c) := ((HP.ext s1).ext x1).cell 0
  have HPL := Lib.hid hpl; clear hpl
  go_wp2_with fail
  refine (CF.out _ (HH.out.ext ((e0.trans s1).trans x1))).mono ?_; rintro _ w2 ⟨rfl, s2⟩
  have HB8 := (Box.new w1 #[.slice (some ⟨g, 0, none⟩) ps.length c1] 26).ext s2
  have b8 : _ = some (Value.slice (some ⟨g, 0, none⟩) ps.length c1) := HB8.cell 0
  have e2 := ((e0.trans s1).trans x1).trans s2
  have HO2 := (ho.ext x1).ext s2
  have hln : (ps.flatMap RV.cells).length = ps.length * 8 := HO2.row.1
  obtain ⟨⟨u0, hu0⟩, hf0⟩ := HO2.row.slot (k * 8) (by rw [hln]; omega)
  have D3 := HO2.setNm hkp t
  have G3 := grown_set w2 ⟨g, k * 8, none⟩ (.string t)
  have e3 : Ext w (w2.setCell ⟨g, k * 8, none⟩ (.string t)) := e2.setCell (p := ⟨g, k * 8, none⟩) (by show w.heap.size ≤ g; omega) _
  have B83 := HB8.other (g' := g) (by omega) (k * 8) (.string t)
  have P3 := (((HP.ext s1).ext x1).ext s2).other (g' := g) (by omega) (k * 8) (.string t)
  have R3 := (((HR.ext s1).ext x1).ext s2).other (g' := g) (by omega) (k * 8) (.string t)
  have hr2 : rulesOf (setNmV ps k t) = ds2 := by rw [rules_set hkp, hps]; exact HD2.out
  have hb1 : (k : Int) < (ps.length : Int) := by omega
  have HD3 := Lib.hid D3; have HR2 := Lib.hid hr2
  clear D3 HO2 G3 ho HB8 hln hr2 HP HR x1 s1 s2 e2
  have b83 : _ = some (Value.slice (some ⟨g, 0, none⟩) ps.length c1) := B83.cell 0
  go_wp2_with fail
  generalize w2.setCell ⟨g, k * 8, none⟩ (.string t) = w3 at *
  clear hu0 hf0 b8
  have hl2 : ds2.length = ps.length := by have := HLN.out; have := HPL.out; omega
  have RD : Hid (RdD w3 (some ⟨g, 0, none⟩) ds2 c1) := by
    obtain ⟨A', c', hv, hR⟩ := HD3.out.rd (by rw [← HR2.out] at hl2; simp [rulesOf] at hl2; have := HPL.out; omega) (fun p hp => HSN.out p.r (by rw [← HR2.out]; exact List.mem_map_of_mem hp))
    rw [HR2.out] at hR hv
    injection hv with q1 _ q2
    subst q1; subst q2; exact hR
  have C3 := CV.out (some ⟨g, 0, none⟩) ds2 c1 w3 RD.out HSN.out HWN.out
  rw [HZ2.out, hl2] at C3
  refine C3.mono ?_; rintro _ w4 ⟨rfl, s4⟩
  have e4 := e3.trans s4
  have B84 := B83.ext s4; have P4 := P3.ext s4; have R4 := R3.ext s4
  have HD4 := Lib.hid (HD3.out.ext s4)
  have r6 : _ = some (Value.slice none 0 0) := R4.cell 0
  have f6 := R4.free 0
  clear C3 RD hl2 B83 P3 R3 HD3 e3 s4 b83
  cases z
  · have p4 : _ = some (Value.slice A ds.length c) := P4.cell 0
    go_wp2_with fail
    refine (CC.out _ (HH.out.ext e4)).mono ?_; rintro _ w5 ⟨v5, ps5, rfl, hps5, ho5, s5⟩
    obtain ⟨A5, c5, hv5⟩ := ho5.shape
    subst hv5
    have R5 := R4.ext s5
    have r7 : _ = some (Value.slice none 0 0) := R5.cell 0
    have f7 := R5.free 0
    have hr4 := R4.lt
    have G := grown_set w5 ⟨w.heap.size + 1, 0, none⟩ (.slice A5 ps5.length c5)
    have D5 : Hid (OwnD w (w5.setCell ⟨w.heap.size + 1, 0, none⟩ (.slice A5 ps5.length c5)) (.slice A5 ps5.length c5) ps5) := (ho5.keep G (fun u hu g hg hh => by have h1 := (ho5.block u hu g hg).1; injection hh with hh; simp at hh; omega)).down e4.size
    have E5 : Hid (Ext w (w5.setCell ⟨w.heap.size + 1, 0, none⟩ (.slice A5 ps5.length c5))) := (e4.trans s5).setCell (p := ⟨w.heap.size + 1, 0, none⟩) (by show w.heap.size ≤ w.heap.size + 1; omega) _
    have z5 : (w5.setCell ⟨w.heap.size + 1, 0, none⟩ (.slice A5 ps5.length c5)).cell? ⟨w.heap.size + 1, 0, none⟩ = some (.slice A5 ps5.length c5) := World.cell?_setCell_same _ _ _ r7
    have HN : Hid (rulesOf ps5 = renD ds f t) := by show _ = _; rw [HD.out, if_neg (by simp)]; exact hps5
    clear ho5 G r6 f6
    go_wp2
    exact bodyPost_ret (v := .tuple #[.agg #[.slice A5 ps5.length c5], .bool false]) (by simp [results, Try.results13, go_sem, z5]) rfl ⟨_, ps5, rfl, HN.out, D5.out, E5.out⟩
  · have b8 : _ = some (Value.slice (some ⟨g, 0, none⟩) ps.length c1) := B84.cell 0
    have G := grown_set w4 ⟨w.heap.size + 1, 0, none⟩ (.slice (some ⟨g, 0, none⟩) ps.length c1)
    have D5 : Hid (OwnD w (w4.setCell ⟨w.heap.size + 1, 0, none⟩ (.slice (some ⟨g, 0, none⟩) ps.length c1)) (.slice (some ⟨g, 0, none⟩) ps.length c1) (setNmV ps k t)) := (HD4.out.keep G (fun u hu g hg hh => by have h1 := (HD4.out.block u hu g hg).1; injection hh with hh; simp at hh; omega)).down e0.size
    have E5 : Hid (Ext w (w4.setCell ⟨w.heap.size + 1, 0, none⟩ (.slice (some ⟨g, 0, none⟩) ps.length c1))) := e4.setCell (p := ⟨w.heap.size + 1, 0, none⟩) (by show w.heap.size ≤ w.heap.size + 1; omega) _
    have z5 : (w4.setCell ⟨w.heap.size + 1, 0, none⟩ (.slice (some ⟨g, 0, none⟩) ps.length c1)).cell? ⟨w.heap.size + 1, 0, none⟩ = some (.slice (some ⟨g, 0, none⟩) ps.length c1) := World.cell?_setCell_same _ _ _ r6
    have HN : Hid (rulesOf (setNmV ps k t) = renD ds f t) := by show _ = _; rw [HD.out, if_pos rfl]; exact HR2.out
    clear HD4 G
    go_wp2
    exact bodyPost_ret (v := .tuple #[.agg #[.slice (some ⟨g, 0, none⟩) ps.length c1], .bool true]) (by simp [results, Try.results13, go_sem, z5]) rfl ⟨_, setNmV ps k t, rfl, HN.out, D5.out, E5.out⟩
end Go.Proofs.Ytophjmphjdhjoaa

/- Which rules can have an entry, as plain functions. -/
namespace Go.Proofs.Ytophjmphjdhjoaa

/-- the kids that count: without the first one at kinds 4, 5 and 7 -/
def kidsOf (r : DRule) : List Int := if r.kind = 4 ∨ r.kind = 5 ∨ r.kind = 7 then r.kids.drop 1 else r.kids
def setAll (c : List Bool) (l : List Int) : List Bool := l.foldl (fun c k => c.set k.toNat true) c
/-- rule number i hands on that it can have an entry -/
def possAt (ds : List DRule) (c : List Bool) (i : Nat) : List Bool := if c.getD i false then setAll c (kidsOf (ds.getD i ⟨⟨#[]⟩, 0, 0, false, [], [], [], []⟩)) else c
/-- from rule number i - 1 down -/
def possFrom (ds : List DRule) : Nat → List Bool → List Bool
  | 0, c => c
  | i + 1, c => possFrom ds i (possAt ds c i)
def possible (ds : List DRule) : List Bool := possFrom ds ds.length ((List.replicate ds.length false).set (ds.length - 1) true)
theorem setAll_len (c : List Bool) (l : List Int) : (setAll c l).length = c.length := by
  unfold setAll
  induction l generalizing c with
  | nil => rfl
  | cons a t ih => rw [List.foldl_cons, ih]; simp
theorem setAll_append (c : List Bool) (a b : List Int) : setAll c (a ++ b) = setAll (setAll c a) b := by unfold setAll; rw [List.foldl_append]
theorem possAt_len (ds : List DRule) (c : List Bool) (i : Nat) : (possAt ds c i).length = c.length := by
  unfold possAt; split
  · exact setAll_len _ _
  · rfl
theorem possFrom_len (ds : List DRule) (i : Nat) (c : List Bool) : (possFrom ds i c).length = c.length := by
  induction i generalizing c with
  | zero => rfl
  | succ i ih => rw [possFrom, ih, possAt_len]
theorem possible_len (ds : List DRule) : (possible ds).length = ds.length := by unfold possible; rw [possFrom_len]; simp
/-- a padding behind the list does not matter, while the kids lie within -/
theorem set_pad (c p : List Bool) (k : Nat) (h : k < c.length) : (c ++ p).set k true = c.set k true ++ p := by rw [List.set_append_left _ _ h]
theorem setAll_pad (c p : List Bool) (l : List Int) (h : ∀ k ∈ l, 0 ≤ k ∧ k < c.length) : setAll (c ++ p) l = setAll c l ++ p := by
  unfold setAll
  induction l generalizing c with
  | nil => rfl
  | cons a t ih =>
    have ha := h a (by simp)
    rw [List.foldl_cons, List.foldl_cons, set_pad c p _ (by omega)]
    exact ih _ (fun k hk => by have := h k (by simp [hk]); simpa using this)
/-- the rules that can have an entry -/
def entries (ds : List DRule) : List Nat := (List.range ds.length).filter fun i => (possible ds).getD i false
def entriesUpTo (c : List Bool) (n : Nat) : List Nat := (List.range n).filter fun i => c.getD i false
theorem entries_eq (ds : List DRule) : entries ds = entriesUpTo (possible ds) ds.length := rfl
theorem entriesUpTo_succ (c : List Bool) (n : Nat) : entriesUpTo c (n + 1) = if c.getD n false then entriesUpTo c n ++ [n] else entriesUpTo c n := by
  unfold entriesUpTo
  rw [List.range_succ, List.filter_append]
  by_cases h : c.getD n false
  · rw [if_pos h]; simp only [List.filter_cons, h, if_true, List.filter_nil]
  · rw [if_neg h]; simp only [List.filter_cons, h, List.filter_nil]; simp
/-- what a coverage says of an index -/
def covered (ds : List DRule) (cov : List Int) : Nat := ((entries ds).filter fun i => decide (0 < at0 cov i)).length
def percent (ds : List DRule) (cov : List Int) : Int := if descOk ds then (100 * covered ds cov : Nat) / (entries ds).length else 0
def uncovered (ds : List DRule) (cov : List Int) : List ByteArray := if descOk ds then ((entries ds).filter fun i => at0 cov i == 0).map (fun i => (ds.getD i ⟨⟨#[]⟩, 0, 0, false, [], [], [], []⟩).nm) else []
end Go.Proofs.Ytophjmphjdhjoaa

/- Which rules can have an entry: facts of a valid description, the kids that count, RootOf. -/
namespace Go.Proofs.Ytophjmphjdhjoaa
open Go.RowKit Go.Sort

theorem allN_at {n k : Nat} {f : Nat → Bool} (h : allN n f = true) (hk : k < n) : f k = true := by
  cases h1 : f k
  · rw [allN_no hk h1] at h; cases h
  · rfl
theorem descOk_len {ds : List DRule} (h : descOk ds = true) : 0 < ds.length ∧ ds.length ≤ 24 := by
  unfold descOk between at h; simp at h; omega
theorem descOk_kid {ds : List DRule} (h : descOk ds = true) (i : Nat) (hi : i < ds.length) (j : Nat) (hj : j < ds[i].kids.length) : 0 ≤ ds[i].kids[j] ∧ ds[i].kids[j] < i := by
  unfold descOk at h
  rw [Bool.and_eq_true] at h
  have h1 := allN_at h.2 hi
  unfold ruleOk at h1
  rw [List.getElem?_eq_getElem hi] at h1
  simp only [Bool.and_eq_true] at h1
  have h2 := allN_at h1.1.2 hj
  unfold kidOk at h2
  rw [List.getElem?_eq_getElem hj] at h2
  unfold between at h2; simp at h2; omega
/-- the kids that count among the first k -/
def selK (r : DRule) (k : Nat) : List Int := if r.kind = 4 ∨ r.kind = 5 ∨ r.kind = 7 then (r.kids.take k).drop 1 else r.kids.take k
theorem selK_all (r : DRule) : selK r r.kids.length = kidsOf r := by unfold selK kidsOf; rw [List.take_length]
theorem selK_zero (r : DRule) : selK r 0 = [] := by unfold selK; simp
theorem selK_step (r : DRule) (k : Nat) (hk : k < r.kids.length) (h : 0 < k ∨ ¬ (r.kind = 4 ∨ r.kind = 5 ∨ r.kind = 7)) : selK r (k+1) = selK r k ++ [r.kids[k]] := by
  unfold selK
  rw [List.take_succ_eq_append_getElem hk]
  split
  · rename_i h1
    rw [List.drop_append_of_le_length (by rw [List.length_take]; rcases h with h | h; omega; exact absurd h1 h)]
  · rfl
theorem selK_skip (r : DRule) (h : r.kind = 4 ∨ r.kind = 5 ∨ r.kind = 7) : selK r 1 = selK r 0 := by
  unfold selK; rw [if_pos h, if_pos h, List.drop_eq_nil_of_le (by rw [List.length_take]; omega)]; simp
theorem setAll_snoc (c : List Bool) (l : List Int) (k : Int) : setAll c (l ++ [k]) = (setAll c l).set k.toNat true := by unfold setAll; rw [List.foldl_append]; rfl
theorem setAll_true (c : List Bool) (l : List Int) (i : Nat) (h : c[i]? = some true) : (setAll c l)[i]? = some true := by
  unfold setAll
  induction l generalizing c with
  | nil => exact h
  | cons a t ih =>
    rw [List.foldl_cons]
    refine ih _ ?_
    rw [List.getElem?_set]
    have hlt : i < c.length := by
      rcases Nat.lt_or_ge i c.length with h' | h'
      · exact h'
      · rw [List.getElem?_eq_none h'] at h; cases h
    split
    · simp; omega
    · exact h
theorem sRoot_c (A : Option Addr) (ds : List DRule) (c : Nat) (w : World) (hl : ds.length ≤ 9223372036854775807) :
    Gives Try.prog 53 #[vdesc (.slice A ds.length c)] w (.int .i64 ((ds.length : Int) - 1)) := by
  have eb := Ext_alloc (.cells #[.slice A ds.length c] 26) (Ext.refl w)
  have BX := fun w' (e : Ext (w.alloc (.cells #[.slice A ds.length c] 26)) w') => boxed e
  unfold vdesc
  go_enter Try.func53, Try.ntmps53
  go_wp2
  go_ret
  exact ⟨ret_i64 (by go_num), eb⟩

end Go.Proofs.Ytophjmphjdhjoaa

/- Extension of one description by another one, as a plain function of the rules. -/
namespace Go.Proofs.Ytophjmphjdhjoaa

theorem allN_congr {n : Nat} {f g : Nat → Bool} (h : ∀ k, k < n → f k = g k) : allN n f = allN n g := by
  cases hg : allN n g
  · cases hf : allN n f
    · rfl
    · have : allN n g = true := allN_yes fun j hj => by rw [← h j hj]; exact allN_at hf hj
      rw [hg] at this; cases this
  · exact allN_yes fun j hj => by rw [h j hj]; exact allN_at hg hj
/-- what a valid rule has, by its kind -/
structure RuleFacts (r : DRule) : Prop where
  kind : 1 ≤ r.kind ∧ r.kind ≤ 10
  plain : r.kind = 1 ∨ r.kind = 2 ∨ r.kind = 3 ∨ r.kind = 10 → r.names = [] ∧ r.kids = []
  parts : r.kind = 4 ∨ r.kind = 5 ∨ r.kind = 6 ∨ r.kind = 7 ∨ r.kind = 8 ∨ r.kind = 9 → r.size = 0 ∧ r.little = false ∧ r.bytes = []
  cho : r.kind = 7 → r.kids.length = r.tags.length + 1 ∧ r.names = []
theorem plainB_facts {r : DRule} {s b n t : Bool} {k : Int} (h : plainB r s b n t k = true) : (s = false → r.size = 0) ∧ (b = false → r.bytes = []) ∧ (n = false → r.names = []) ∧ (0 ≤ k → (r.kids.length : Int) = k) := by
  unfold plainB at h
  simp only [Bool.and_eq_true, Bool.or_eq_true, beq_iff_eq, decide_eq_true_eq, List.length_eq_zero_iff] at h
  obtain ⟨⟨⟨⟨h1, h2⟩, h3⟩, h4⟩, h5⟩ := h
  refine ⟨fun e => ?_, fun e => ?_, fun e => ?_, fun e => by omega⟩
  · rw [e] at h1; simpa using h1
  · rw [e] at h2; simpa using h2
  · rw [e] at h3; simpa using h3
theorem ruleKind {ds : List DRule} (h : descOk ds = true) (i : Nat) (hi : i < ds.length) : kindOk ds ds[i] = true := by
  unfold descOk at h
  rw [Bool.and_eq_true] at h
  have h1 := allN_at h.2 hi
  unfold ruleOk at h1
  rw [List.getElem?_eq_getElem hi] at h1
  simp only [Bool.and_eq_true] at h1
  exact h1.2
theorem ruleFacts {ds : List DRule} (h : descOk ds = true) (i : Nat) (hi : i < ds.length) : RuleFacts ds[i] := by
  unfold descOk at h
  rw [Bool.and_eq_true] at h
  have h1 := allN_at h.2 hi
  unfold ruleOk at h1
  rw [List.getElem?_eq_getElem hi] at h1
  simp only [Bool.and_eq_true] at h1
  have hk := h1.2
  have hlit := h1.1.1.1.2
  generalize ds[i] = r at *
  have hl : r.kind ≠ 1 → r.little = false := by
    intro hne
    cases hq : r.little
    · rfl
    · rw [hq] at hlit; simp at hlit; exact absurd hlit hne
  unfold kindOk at hk
  have NO : ∀ {p : Prop} {k k' : Int}, k ≠ k' → r.kind = k → r.kind = k' → p := fun hne e1 e2 => absurd (e1.symm.trans e2) hne
  split at hk
  · rename_i e
    simp only [Bool.and_eq_true] at hk
    have f := plainB_facts hk.1.1
    exact ⟨by omega, fun _ => ⟨f.2.2.1 rfl, by have := f.2.2.2 (by omega); simpa using this⟩, fun h => by omega, fun h => by omega⟩
  split at hk
  · rename_i e
    simp only [Bool.and_eq_true] at hk
    have f := plainB_facts hk.1
    exact ⟨by omega, fun _ => ⟨f.2.2.1 rfl, by have := f.2.2.2 (by omega); simpa using this⟩, fun h => by omega, fun h => by omega⟩
  split at hk
  · rename_i e
    simp only [Bool.and_eq_true] at hk
    have f := plainB_facts hk.1
    exact ⟨by omega, fun _ => ⟨f.2.2.1 rfl, by have := f.2.2.2 (by omega); simpa using this⟩, fun h => by omega, fun h => by omega⟩
  split at hk
  · rename_i e
    simp only [Bool.and_eq_true] at hk
    have f := plainB_facts hk.1
    exact ⟨by omega, fun h => by omega, fun _ => ⟨f.1 rfl, hl (by omega), f.2.1 rfl⟩, fun h => by omega⟩
  split at hk
  · rename_i e
    simp only [Bool.and_eq_true] at hk
    have f := plainB_facts hk.1
    exact ⟨by omega, fun h => by omega, fun _ => ⟨f.1 rfl, hl (by omega), f.2.1 rfl⟩, fun h => by omega⟩
  split at hk
  · rename_i e
    unfold seqOk at hk
    simp only [Bool.and_eq_true] at hk
    have f := plainB_facts hk.1.1.1
    exact ⟨by omega, fun h => by omega, fun _ => ⟨f.1 rfl, hl (by omega), f.2.1 rfl⟩, fun h => by omega⟩
  split at hk
  · rename_i e
    unfold choOk at hk
    simp only [Bool.and_eq_true] at hk
    have f := plainB_facts hk.1.1
    exact ⟨by omega, fun h => by omega, fun _ => ⟨f.1 rfl, hl (by omega), f.2.1 rfl⟩, fun _ => ⟨by have := f.2.2.2 (by omega); omega, f.2.2.1 rfl⟩⟩
  split at hk
  · rename_i e
    have f := plainB_facts hk
    exact ⟨by omega, fun h => by omega, fun _ => ⟨f.1 rfl, hl (by omega), f.2.1 rfl⟩, fun h => by omega⟩
  split at hk
  · rename_i e
    have f := plainB_facts hk
    exact ⟨by omega, fun h => by omega, fun _ => ⟨f.1 rfl, hl (by omega), f.2.1 rfl⟩, fun h => by omega⟩
  split at hk
  · rename_i e
    simp only [Bool.and_eq_true] at hk
    have f := plainB_facts hk.1.1
    exact ⟨by omega, fun _ => ⟨f.2.2.1 rfl, by have := f.2.2.2 (by omega); simpa using this⟩, fun h => by omega, fun h => by omega⟩
  · cases hk

/-- the place of a tag; the length, where there is none -/
def tagN (l : List Int) (t : Int) : Nat := l.findIdx (· == t)
theorem tagN_at {l : List Int} {t : Int} {k : Nat} (hk : k < l.length) (h : l[k] = t) (hn : ∀ j (hj : j < l.length), j < k → l[j] ≠ t) : tagN l t = k := by
  unfold tagN
  rw [List.findIdx_eq hk]
  exact ⟨by simpa using h, fun j hj => by have := hn j (by omega) hj; simpa using this⟩
theorem tagN_none {l : List Int} {t : Int} (hn : ∀ j (hj : j < l.length), l[j] ≠ t) : tagN l t = l.length := by
  unfold tagN
  rw [List.findIdx_eq_length]
  intro x hx
  obtain ⟨k, hk, rfl⟩ := List.getElem_of_mem hx
  simpa using hn k hk
theorem tagN_le (l : List Int) (t : Int) : tagN l t ≤ l.length := List.findIdx_le_length
def kd (r : DRule) (t : Nat) : Nat := (r.kids.getD t 0).toNat
theorem kd_at {r : DRule} {t : Nat} (h : t < r.kids.length) : kd r t = r.kids[t].toNat := by unfold kd; simp [h]
theorem kd_lt {ds : List DRule} (h : descOk ds = true) (i : Nat) (hi : i < ds.length) (t : Nat) (ht : t < ds[i].kids.length) : kd ds[i] t < i := by
  rw [kd_at ht]; have := descOk_kid h i hi t ht; omega
theorem kd_int {ds : List DRule} (h : descOk ds = true) (i : Nat) (hi : i < ds.length) (t : Nat) (ht : t < ds[i].kids.length) : ds[i].kids[t] = (kd ds[i] t : Int) := by
  rw [kd_at ht]; have := descOk_kid h i hi t ht; omega
/-- what two rules say themselves -/
def extHead (x y : DRule) : Bool := x.kind == y.kind && x.size == y.size && x.little == y.little && x.bytes == y.bytes
/-- the alternative with tag number t of x -/
def extTag (e : Nat → Nat → Bool) (x y : DRule) (t : Nat) : Bool := decide (tagN y.tags (x.tags.getD t 0) < y.tags.length) && e (kd x (t + 1)) (kd y (tagN y.tags (x.tags.getD t 0) + 1))
/-- the parts -/
def extTail (e : Nat → Nat → Bool) (x y : DRule) : Bool :=
  if x.kind = 7 then e (kd x 0) (kd y 0) && allN x.tags.length (extTag e x y)
  else eqNms x.names y.names && x.kids.length == y.kids.length && allN x.kids.length (fun t => e (kd x t) (kd y t))
def extF (a b : List DRule) : Nat → Nat → Nat → Bool
  | 0, _, _ => false
  | n + 1, i, j => match a[i]?, b[j]? with
    | some x, some y => extHead x y && extTail (extF a b n) x y
    | _, _ => false
/-- rule j of b extends rule i of a -/
def ext (a b : List DRule) (i j : Nat) : Bool := extF a b (i + 1) i j
theorem extTail_congr {ds : List DRule} (h : descOk ds = true) (i : Nat) (hi : i < ds.length) (e e' : Nat → Nat → Bool) (y : DRule) (he : ∀ k, k < i → ∀ j, e k j = e' k j) : extTail e ds[i] y = extTail e' ds[i] y := by
  have hk := kd_lt h i hi
  have hf := ruleFacts h i hi
  unfold extTail
  split
  · rename_i h7
    have hc := (hf.cho h7).1
    rw [he _ (hk 0 (by omega))]
    rw [allN_congr (f := extTag e ds[i] y) (g := extTag e' ds[i] y) (fun t ht => by unfold extTag; rw [he _ (hk (t + 1) (by omega))])]
  · rw [allN_congr (fun t ht => he _ (hk t ht) _)]
theorem extF_fuel {a : List DRule} (h : descOk a = true) (b : List DRule) : ∀ n m i j, i < n → i < m → extF a b n i j = extF a b m i j := by
  intro n
  induction n with
  | zero => intro m i j hn; omega
  | succ n ih =>
    intro m i j hn hm
    obtain ⟨m', rfl⟩ : ∃ m', m = m' + 1 := ⟨m - 1, by omega⟩
    unfold extF
    rcases Nat.lt_or_ge i a.length with hi | hi
    · rw [List.getElem?_eq_getElem hi]
      rcases Nat.lt_or_ge j b.length with hj | hj
      · rw [List.getElem?_eq_getElem hj]
        show (_ && _) = (_ && _)
        rw [extTail_congr h i hi _ (extF a b m') _ (fun k hk j => ih m' k j (by omega) (by omega))]
      · rw [List.getElem?_eq_none hj]
    · rw [List.getElem?_eq_none hi]
theorem ext_step {a b : List DRule} (h : descOk a = true) (i j : Nat) (hi : i < a.length) (hj : j < b.length) : ext a b i j = (extHead a[i] b[j] && extTail (ext a b) a[i] b[j]) := by
  unfold ext
  rw [extF, List.getElem?_eq_getElem hi, List.getElem?_eq_getElem hj]
  show (_ && _) = (_ && _)
  rw [extTail_congr h i hi (extF a b i) (fun i j => extF a b (i + 1) i j) b[j] (fun k hk j => extF_fuel h b i (k + 1) k j hk (by omega))]
/-- ExtendsRule, Extends, SameFormat -/
def extRule (a b : List DRule) (i j : Int) : Bool := knownB a i && (knownB b j && ext a b i.toNat j.toNat)
def extD (a b : List DRule) : Bool := extRule a b ((a.length : Int) - 1) ((b.length : Int) - 1)
def sameF (a b : List DRule) : Bool := extD a b && extD b a
end Go.Proofs.Ytophjmphjdhjoaa

/- Renaming a rule, the plain part: the format stays, and renaming back leads back. -/
namespace Go.Proofs.Ytophjmphjdhjoaa
open Go.RowKit Go.Sort

theorem toList_inj {a b : ByteArray} (h : a.toList = b.toList) : a = b := by
  rw [ByteArray.toList_eq, ByteArray.toList_eq] at h
  exact ByteArray.ext (Array.toList_inj.1 h)
/-- rules that differ in their names at most -/
def AlikeR (x y : DRule) : Prop := x.kind = y.kind ∧ x.size = y.size ∧ x.little = y.little ∧ x.bytes = y.bytes ∧ x.names = y.names ∧ x.tags = y.tags ∧ x.kids = y.kids
theorem tags_nodup {ds : List DRule} (h : descOk ds = true) (i : Nat) (hi : i < ds.length) (h7 : ds[i].kind = 7) : ∀ k (hk : k < ds[i].tags.length), ∀ j (hj : j < k), ds[i].tags[j] < ds[i].tags[k] := by
  have hk7 := ruleKind h i hi
  unfold kindOk at hk7
  rw [if_neg (by omega), if_neg (by omega), if_neg (by omega), if_neg (by omega), if_neg (by omega), if_neg (by omega), if_pos h7] at hk7
  unfold choOk at hk7
  simp only [Bool.and_eq_true] at hk7
  have hall := hk7.2
  have step : ∀ k (hk : k + 1 < ds[i].tags.length), ds[i].tags[k] < ds[i].tags[k + 1] := by
    intro k hk
    have h1 := allN_at hall hk
    unfold tagOk at h1
    rw [List.getElem?_eq_getElem hk] at h1
    simp only [Bool.and_eq_true, Bool.or_eq_true, beq_iff_eq, decide_eq_true_eq] at h1
    rcases h1.2 with h2 | h2
    · omega
    · rw [List.getD_eq_getElem?_getD, Nat.add_sub_cancel, List.getElem?_eq_getElem (by omega)] at h2
      exact h2
  intro k
  induction k with
  | zero => intro hk j hj; omega
  | succ k ih =>
    intro hk j hj
    rcases (by omega : j = k ∨ j < k) with rfl | h1
    · exact step j hk
    · exact Int.lt_trans (ih (by omega) j h1) (step k hk)
theorem tagN_self {ds : List DRule} (h : descOk ds = true) (i : Nat) (hi : i < ds.length) (h7 : ds[i].kind = 7) (t : Nat) (ht : t < ds[i].tags.length) : tagN ds[i].tags (ds[i].tags.getD t 0) = t := by
  refine tagN_at ht ?_ (fun j hj hjt => ?_)
  · rw [List.getD_eq_getElem?_getD, List.getElem?_eq_getElem ht]; rfl
  · rw [List.getD_eq_getElem?_getD, List.getElem?_eq_getElem ht]
    have := tags_nodup h i hi h7 t ht j hjt
    simp only [Option.getD_some]
    omega
/-- a description is extended by one that is alike -/
theorem ext_alike {a b : List DRule} (ha : descOk a = true) (hl : a.length = b.length) (hs : ∀ i (h1 : i < a.length) (h2 : i < b.length), AlikeR a[i] b[i]) : ∀ n i, i < n → i < a.length → ext a b i i = true := by
  intro n
  induction n with
  | zero => intro i h; omega
  | succ n ih =>
    intro i hin hi
    have hj : i < b.length := by omega
    rw [ext_step ha i i hi hj]
    obtain ⟨e1, e2, e3, e4, e5, e6, e7⟩ := hs i hi hj
    have hk := kd_lt ha i hi
    have hf := ruleFacts ha i hi
    have hkd : ∀ t, kd b[i] t = kd a[i] t := fun t => by unfold kd; rw [e7]
    rw [Bool.and_eq_true]
    refine ⟨by unfold extHead; simp [e1, e2, e3, e4], ?_⟩
    unfold extTail
    split
    · rename_i h7
      have hc := (hf.cho h7).1
      rw [Bool.and_eq_true]
      refine ⟨?_, allN_yes fun t ht => ?_⟩
      · rw [hkd]; have := hk 0 (by omega); exact ih _ (by omega) (by omega)
      · unfold extTag
        rw [← e6, tagN_self ha i hi h7 t ht, hkd]
        have := hk (t + 1) (by omega)
        rw [ih _ (by omega) (by omega), decide_eq_true ht]; rfl
    · rw [e5, e7, eqNms_refl]
      simp only [beq_self_eq_true, Bool.true_and]
      refine allN_yes fun t ht => ?_
      rw [hkd]
      have := hk t (by rw [e7]; exact ht)
      exact ih _ (by omega) (by omega)
theorem knownB_root {ds : List DRule} (h : descOk ds = true) : knownB ds ((ds.length : Int) - 1) = true := by
  have := descOk_len h
  unfold knownB
  rw [h, decide_eq_true (by omega), decide_eq_true (by omega)]; rfl
theorem extD_alike {a b : List DRule} (ha : descOk a = true) (hb : descOk b = true) (hl : a.length = b.length) (hs : ∀ i (h1 : i < a.length) (h2 : i < b.length), AlikeR a[i] b[i]) : extD a b = true := by
  have h0 := descOk_len ha
  unfold extD extRule
  rw [knownB_root ha, knownB_root hb]
  have : ((b.length : Int) - 1).toNat = ((a.length : Int) - 1).toNat := by omega
  rw [this, ext_alike ha hl hs (((a.length : Int) - 1).toNat + 1) _ (by omega) (by omega)]; rfl
theorem AlikeR.symm {x y : DRule} (h : AlikeR x y) : AlikeR y x := by
  obtain ⟨e1, e2, e3, e4, e5, e6, e7⟩ := h
  exact ⟨e1.symm, e2.symm, e3.symm, e4.symm, e5.symm, e6.symm, e7.symm⟩
theorem AlikeR.refl (x : DRule) : AlikeR x x := ⟨rfl, rfl, rfl, rfl, rfl, rfl, rfl⟩
theorem sameF_alike {a b : List DRule} (ha : descOk a = true) (hl : a.length = b.length) (hs : ∀ i (h1 : i < a.length) (h2 : i < b.length), AlikeR a[i] b[i]) : sameF a b = descOk b := by
  unfold sameF
  cases hb : descOk b
  · have : extD a b = false := by
      unfold extD extRule knownB
      rw [hb]; simp
    rw [this]; rfl
  · rw [extD_alike ha hb hl hs, extD_alike hb ha hl.symm (fun i h1 h2 => (hs i h2 h1).symm)]; rfl
theorem setNm_alike {ds : List DRule} {k : Nat} (t : ByteArray) : ∀ i (h1 : i < (setNm ds k t).length) (h2 : i < ds.length), AlikeR (setNm ds k t)[i] ds[i] := by
  intro i h1 h2
  have h3 : (setNm ds k t)[i] = if k = i then nmR (ds.getD k ⟨⟨#[]⟩, 0, 0, false, [], [], [], []⟩) t else ds[i] := by simp only [setNm, List.getElem_set]
  rw [h3]
  split
  · rename_i e
    subst e
    have : ds.getD k ⟨⟨#[]⟩, 0, 0, false, [], [], [], []⟩ = ds[k] := by simp [h2]
    rw [this]
    exact ⟨rfl, rfl, rfl, rfl, rfl, rfl, rfl⟩
  · exact AlikeR.refl _
/-- the names of valid rules differ -/
theorem names_differ {ds : List DRule} (h : descOk ds = true) (i : Nat) (hi : i < ds.length) (j : Nat) (hj : j < i) : (ds[j].nm.toList == ds[i].nm.toList) = false := by
  unfold descOk at h
  rw [Bool.and_eq_true] at h
  have h1 := allN_at h.2 hi
  unfold ruleOk at h1
  rw [List.getElem?_eq_getElem hi] at h1
  simp only [Bool.and_eq_true] at h1
  have h2 := allN_at h1.1.1.2 hj
  unfold freshNm at h2
  rw [List.getElem?_eq_getElem (by omega)] at h2
  simpa using h2
theorem findR_spec {ds : List DRule} {s : ByteArray} (h : 0 ≤ findR ds s) : ∃ h' : (findR ds s).toNat < ds.length, ds[(findR ds s).toNat].nm = s := by
  unfold findR at *
  cases hf : ds.findIdx? (fun r => r.nm.toList == s.toList) with
  | none => rw [hf] at h; simp at h
  | some i =>
    obtain ⟨h1, h2, _⟩ := List.findIdx?_eq_some_iff_getElem.1 hf
    exact ⟨h1, toList_inj (by simpa using h2)⟩
/-- all that the law on renaming asks of the plain functions -/
theorem ren_law {ds : List DRule} {f t : ByteArray} (h : renOk ds f t = true) :
    descOk (renD ds f t) = true ∧ sameF (renD ds f t) ds = descOk ds ∧ renOk (renD ds f t) t f = descOk ds ∧ (descOk ds = true → renD (renD ds f t) t f = ds) := by
  have hX : renD ds f t = setNm ds (findR ds f).toNat t := by unfold renD; rw [h]; rfl
  have h' := h
  unfold renOk at h'
  rw [Bool.and_eq_true, decide_eq_true_eq] at h'
  obtain ⟨h0, hv⟩ := h'
  obtain ⟨hk, hnm⟩ := findR_spec h0
  rw [hX]
  generalize (findR ds f).toNat = k at *
  have hlen : (setNm ds k t).length = ds.length := setNm_len ds k t
  have hkX : (setNm ds k t)[k]'(by omega) = nmR ds[k] t := by unfold setNm; simp [hk]
  have hfind : findR (setNm ds k t) t = (k : Int) := by
    refine findR_at (by omega) (by rw [hkX]; simp [nmR]) (fun j hj hjk => ?_)
    have := names_differ hv k (by omega) j hjk
    rw [hkX] at this
    simpa [nmR] using this
  have hback : setNm (setNm ds k t) k f = ds := by
    unfold setNm
    rw [List.set_set]
    have e1 : (ds.set k (nmR (ds.getD k ⟨⟨#[]⟩, 0, 0, false, [], [], [], []⟩) t)).getD k ⟨⟨#[]⟩, 0, 0, false, [], [], [], []⟩ = nmR ds[k] t := by simp [hk]
    rw [e1]
    have e2 : nmR (nmR ds[k] t) f = ds[k] := by
      show ({ ({ ds[k] with nm := t } : DRule) with nm := f } : DRule) = ds[k]
      rw [← hnm]
    rw [e2, List.set_getElem_self]
  refine ⟨hv, sameF_alike hv hlen (setNm_alike t), ?_, fun _ => ?_⟩
  · unfold renOk
    rw [hfind, Int.toNat_natCast, hback, decide_eq_true (by omega)]; rfl
  · rename_i hds
    have : renOk (setNm ds k t) t f = true := by unfold renOk; rw [hfind, Int.toNat_natCast, hback, decide_eq_true (by omega), hds]; rfl
    unfold renD
    rw [this, hfind, Int.toNat_natCast, hback]; rfl
end Go.Proofs.Ytophjmphjdhjoaa

/- l9Item and l29Extends of the reference: the walks. -/
namespace Go.Proofs.Ytophjmphjdhjoaa
open Go.RowKit Go.Sort

set_option maxRecDepth 100000 in
set_option maxHeartbeats 2000000 in
theorem sItem_c (p : DRule) (Ab : Option Addr) (cb : Nat) (An : Option Addr) (cn : Nat) (At : Option Addr) (ct : Nat) (Ak : Option Addr) (ck : Nat) (t : Int) (w : World) (h : RdS w p Ab cb An cn At ct Ak ck) (hk7 : p.kind = 7) (hl : p.kids.length = p.tags.length + 1) (hkn : ∀ j (hj : j < p.kids.length), p.kids[j] = (kd p j : Int)) :
    Gives Try.prog 70 #[vrule p (.slice Ab p.bytes.length cb) (.slice An p.names.length cn) (.slice At p.tags.length ct) (.slice Ak p.kids.length ck), .int .i64 t, .int .i64 0] w (.int .i64 (if tagN p.tags t < p.tags.length then (kd p (tagN p.tags t + 1) : Int) else -1)) := by
  have hlt := h.t.len; have hlk := h.k.len
  have eb := Ext_alloc (.cells #[.string p.nm, .int .i64 p.kind, .int .i64 p.size, .bool p.little, .slice Ab p.bytes.length cb, .slice An p.names.length cn, .slice At p.tags.length ct, .slice Ak p.kids.length ck] 35) (Ext.refl w)
  have BX := fun w' (e : Ext (w.alloc (.cells #[.string p.nm, .int .i64 p.kind, .int .i64 p.size, .bool p.little, .slice Ab p.bytes.length cb, .slice An p.names.length cn, .slice At p.tags.length ct, .slice Ak p.kids.length ck] 35)) w') => boxed e
  have FY : Hid (∀ k (hk : k < p.tags.length), (∀ j (hj : j < p.tags.length), j < k → p.tags[j] ≠ t) → p.tags[k] = t → (if tagN p.tags t < p.tags.length then (kd p (tagN p.tags t + 1) : Int) else -1) = (kd p (k + 1) : Int)) := by
    intro k hk hn he; rw [tagN_at hk he hn, if_pos hk]
  have FN : Hid ((∀ j (hj : j < p.tags.length), p.tags[j] ≠ t) → (if tagN p.tags t < p.tags.length then (kd p (tagN p.tags t + 1) : Int) else -1) = -1) := by
    intro hn; rw [tagN_none hn, if_neg (Nat.lt_irrefl _)]
  generalize (if tagN p.tags t < p.tags.length then (kd p (tagN p.tags t + 1) : Int) else -1) = R at *
  have k5 : (p.kind == 5) = false := by rw [hk7]; rfl
  have k6 : (p.kind == 6) = false := by rw [hk7]; rfl
  have k7 : (p.kind == 7) = true := by rw [hk7]; rfl
  have HKN := Lib.hid hkn; have HL1 := Lib.hid hl
  unfold vrule
  clear hk7 hkn hl
  go_enter Try.func70, Try.ntmps70
  go_wp2
  go_loopw [7] (fun ix wr => ∃ k : Nat, k ≤ p.tags.length ∧ ix = .int .i64 k ∧ Hid (∀ j (hj : j < p.tags.length), j < k → p.tags[j] ≠ t) ∧ Ext (w.alloc (.cells #[.string p.nm, .int .i64 p.kind, .int .i64 p.size, .bool p.little, .slice Ab p.bytes.length cb, .slice An p.names.length cn, .slice At p.tags.length ct, .slice Ak p.kids.length ck] 35)) wr) (fun ix _ => p.tags.length - (intOf ix).toNat)
  case atStart => exact ⟨0, by omega, rfl, (fun j _ hj => by omega), Ext.refl _⟩
  case round =>
    obtain ⟨k, hk, rfl, hn, he⟩ := hrel
    by_cases hlt : k < p.tags.length
    · obtain ⟨bt, ot, rfl, hbt, hct⟩ := (h.t.ext eb).at k hlt
      obtain ⟨bk, ok, rfl, hbk, hck⟩ := (h.k.ext eb).at (k + 1) (by have := HL1.out; omega)
      rw [HKN.out (k + 1) (by have := HL1.out; omega)] at hck
      have Y := Lib.hid (FY.out k hlt hn.out)
      have N : Hid (¬ p.tags[k] = t → ∀ j (hj : j < p.tags.length), j < k + 1 → p.tags[j] ≠ t) := fun hne j hj hjk => by
        rcases (by omega : j < k ∨ j = k) with hjk | rfl
        · exact hn.out j hj hjk
        · exact hne
      have d1 : decide ((k : Int) < (p.tags.length : Int)) = true := decide_eq_true (by omega)
      generalize p.tags[k] = x at *
      generalize kd p (k + 1) = y at *
      have hkl : k + 1 < p.kids.length := by have := HL1.out; omega
      clear FY FN hn h HKN
      by_cases hx : x = t
      · have HE := Lib.hid (Y.out hx); clear Y N
        have kx : (x == t) = true := by simpa using hx
        clear hx
        go_wp2
        go_ret
        exact ⟨ret_i64 HE.out.symm, eb.trans he⟩
      · have HE := Lib.hid (N.out hx); clear Y N
        have kx : (x == t) = false := by simpa using hx
        clear hx
        go_wp2
        go_roundw
        case rel => exact ⟨k + 1, by omega, by go_num, HE, he⟩
        case measure => simp [intOf]; omega
    · have HE := Lib.hid (FN.out (fun j hj => hn.out j hj (by omega)))
      have d1 : decide ((k : Int) < (p.tags.length : Int)) = false := decide_eq_false (by omega)
      clear FY FN
      go_wp2
      go_ret
      exact ⟨ret_i64 HE.out.symm, eb.trans he⟩
/-- four blocks that were laid one behind the other -/
theorem boxed4 {w : World} {c0 c1 c2 c3 : Array Value} {T0 T1 T2 T3 : TypeId} {w' : World} (h : Ext ((((w.alloc (.cells c0 T0)).alloc (.cells c1 T1)).alloc (.cells c2 T2)).alloc (.cells c3 T3)) w') :
    (∀ i, w'.cell? ⟨w.heap.size, i, none⟩ = c0[i]?) ∧ (∀ i, w'.cell? ⟨w.heap.size + 1, i, none⟩ = c1[i]?) ∧ (∀ i, w'.cell? ⟨w.heap.size + 1 + 1, i, none⟩ = c2[i]?) ∧ (∀ i, w'.cell? ⟨w.heap.size + 1 + 1 + 1, i, none⟩ = c3[i]?) := by
  have h1 := boxed2 h
  have h2 := boxed2 ((Ext_alloc _ (Ext_alloc _ (Ext.refl _))).trans h)
  have s1 : ((w.alloc (.cells c0 T0)).alloc (.cells c1 T1)).heap.size = w.heap.size + 1 + 1 := by simp
  rw [s1] at h1
  exact ⟨h2.1, h2.2.1, h1.1, h1.2.1⟩
theorem ext_no {a b : List DRule} (h : descOk a = true) (i j : Nat) (hi : i < a.length) (hj : j < b.length) (hh : extHead a[i] b[j] = false) : ext a b i j = false := by rw [ext_step h i j hi hj, hh]; rfl
theorem ext_yes {a b : List DRule} (h : descOk a = true) (i j : Nat) (hi : i < a.length) (hj : j < b.length) (hh : extHead a[i] b[j] = true) : ext a b i j = extTail (ext a b) a[i] b[j] := by rw [ext_step h i j hi hj, hh]; rfl
set_option maxRecDepth 100000 in
set_option maxHeartbeats 8000000 in
theorem sExt_c (A A' : Option Addr) (a b : List DRule) (c c' : Nat) (w0 : World) (ha : RdD w0 A a c) (hb : RdD w0 A' b c') (hva : descOk a = true) (hvb : descOk b = true) (hsa : ShortD a) (hsb : ShortD b) :
    ∀ n i, i < n → i < a.length → ∀ j, j < b.length → ∀ w, Ext w0 w → Gives Try.prog 64 #[vdesc (.slice A a.length c), .int .i64 (i : Int), vdesc (.slice A' b.length c'), .int .i64 (j : Int)] w (.bool (ext a b i j)) := by
  intro n
  induction n with
  | zero => intro i hi; omega
  | succ n ih =>
    intro i hin hi j hj w e0
    have hla := ha.len; have hlb := hb.len
    obtain ⟨ba, oa, Ab, cb, An, cn, At, ct, Ak, ck, hA, hba, hSa, hRa⟩ := (ha.ext e0).at i hi
    obtain ⟨bb, ob, Ab', cb', An', cn', At', ct', Ak', ck', hA', hbb, hSb, hRb⟩ := (hb.ext e0).at j hj
    subst hA; subst hA'
    have HNO := Lib.hid (fun h => ext_no hva i j hi hj h)
    have HYES := Lib.hid (fun h => ext_yes hva i j hi hj h)
    have fa := ruleFacts hva i hi; have fb := ruleFacts hvb j hj
    have ka := Lib.hid (kd_int hva i hi); have kb := Lib.hid (kd_int hvb j hj)
    have la := Lib.hid (kd_lt hva i hi); have lb := Lib.hid (kd_lt hvb j hj)
    have sa := hsa _ (List.getElem_mem hi); have sb := hsb _ (List.getElem_mem hj)
    have IH : Hid (∀ t (ht : t < a[i].kids.length) y, y < b.length → ∀ w', Ext w w' → Gives Try.prog 64 #[vdesc (.slice (some ⟨ba, oa, none⟩) a.length c), .int .i64 (kd a[i] t : Int), vdesc (.slice (some ⟨bb, ob, none⟩) b.length c'), .int .i64 (y : Int)] w' (.bool (ext a b (kd a[i] t) y))) :=
      fun t ht y hy w' e => ih (kd a[i] t) (by have := la.out t ht; omega) (by have := la.out t ht; omega) y hy w' (e0.trans e)
    clear ih hva hvb hsa hsb
    generalize ext a b i j = Z at *
    generalize a[i] = p at *
    generalize b[j] = q at *
    have HJ : Hid (∀ t, t < q.kids.length → kd q t < b.length) := fun t ht => by have := lb.out t ht; omega
    have eb3 := (Ext_alloc (.cells #[.string p.nm, .int .i64 p.kind, .int .i64 p.size, .bool p.little, .slice Ab p.bytes.length cb, .slice An p.names.length cn, .slice At p.tags.length ct, .slice Ak p.kids.length ck] 35) (Ext_alloc (.cells #[.slice (some ⟨bb, ob, none⟩) b.length c'] 26) (Ext_alloc (.cells #[.slice (some ⟨ba, oa, none⟩) a.length c] 26) (Ext.refl w))))
    have eb := (Ext_alloc (.cells #[.string q.nm, .int .i64 q.kind, .int .i64 q.size, .bool q.little, .slice Ab' q.bytes.length cb', .slice An' q.names.length cn', .slice At' q.tags.length ct', .slice Ak' q.kids.length ck'] 35) (Ext_alloc (.cells #[.string p.nm, .int .i64 p.kind, .int .i64 p.size, .bool p.little, .slice Ab p.bytes.length cb, .slice An p.names.length cn, .slice At p.tags.length ct, .slice Ak p.kids.length ck] 35) (Ext_alloc (.cells #[.slice (some ⟨bb, ob, none⟩) b.length c'] 26) (Ext_alloc (.cells #[.slice (some ⟨ba, oa, none⟩) a.length c] 26) (Ext.refl w)))))
    obtain ⟨W3, hW3⟩ : ∃ W3, W3 = ((((w.alloc (.cells #[.slice (some ⟨ba, oa, none⟩) a.length c] 26)).alloc (.cells #[.slice (some ⟨bb, ob, none⟩) b.length c'] 26)).alloc (.cells #[.string p.nm, .int .i64 p.kind, .int .i64 p.size, .bool p.little, .slice Ab p.bytes.length cb, .slice An p.names.length cn, .slice At p.tags.length ct, .slice Ak p.kids.length ck] 35)).alloc (.cells #[.string q.nm, .int .i64 q.kind, .int .i64 q.size, .bool q.little, .slice Ab' q.bytes.length cb', .slice An' q.names.length cn', .slice At' q.tags.length ct', .slice Ak' q.kids.length ck'] 35)) := ⟨_, rfl⟩
    have BX := fun w' (e : Ext W3 w') => boxed4 (hW3 ▸ e)
    have B0 := fun w' e => (BX w' e).1; have B1 := fun w' e => (BX w' e).2.1; have B2 := fun w' e => (BX w' e).2.2.1; have B3 := fun w' e => (BX w' e).2.2.2
    clear BX
    rw [hW3] at B0 B1 B2 B3
    obtain ⟨m0, m1, m2, m3, m4, m5, m6, m7⟩ := hRa
    obtain ⟨r0, r1, r2, r3, r4, r5, r6, r7⟩ := hRb
    have CB := Lib.hid (fun w' (e : Ext w w') => sEqualBytes_c Ab Ab' p.bytes q.bytes cb cb' w' ⟨hSa.b.ext e, sa.1⟩ ⟨hSb.b.ext e, sb.1⟩)
    have CT := Lib.hid (fun w' (e : Ext w w') => l4Texts_c An An' p.names q.names cn cn' w' (hSa.n.ext e) (hSb.n.ext e))
    have HSA := Lib.hid hSa; have HSB := Lib.hid hSb
    have hpk := hSa.k.len; have hpt := hSa.t.len; have hqk := hSb.k.len
    clear ha hb sa sb lb la
    unfold vdesc at *
    have HW3 := Lib.hid hW3; clear hW3
    unfold extHead at HNO HYES
    generalize p.little = lp at *
    generalize hlq : q.little = lq at *
    have HLQ := Lib.hid hlq; clear hlq
    cases g1 : (p.kind == q.kind)
    · have HE : Hid (Z = false) := HNO.out (by rw [g1]; rfl)
      have h1 : (p.kind != q.kind) = true := by rw [bne, g1]; rfl
      go_enter Try.func64, Try.ntmps64
      go_wp2
      go_ret
      exact ⟨ret_bool HE.out.symm, eb⟩
    have h1 : (p.kind != q.kind) = false := by rw [bne, g1]; rfl
    cases g2 : (p.size == q.size)
    · have HE : Hid (Z = false) := HNO.out (by rw [g1, g2]; rfl)
      have h2 : (p.size != q.size) = true := by rw [bne, g2]; rfl
      go_enter Try.func64, Try.ntmps64
      go_wp2
      go_ret
      exact ⟨ret_bool HE.out.symm, eb⟩
    have h2 : (p.size != q.size) = false := by rw [bne, g2]; rfl
    cases g3 : (lp == lq)
    · have HE : Hid (Z = false) := HNO.out (by rw [g1, g2, g3]; rfl)
      have h3 : (lp != lq) = true := by rw [bne, g3]; rfl
      go_enter Try.func64, Try.ntmps64
      go_wp2
      go_ret
      exact ⟨ret_bool HE.out.symm, eb⟩
    obtain rfl : lp = lq := by simpa using g3
    have h3 : (lp != lp) = false := by simp
    cases g4 : (p.bytes == q.bytes)
    · have HE : Hid (Z = false) := HNO.out (by rw [g1, g2, g3, g4]; rfl)
      rw [g4] at CB
      go_enter Try.func64, Try.ntmps64
      go_wp2_with fail
      refine (CB.out _ eb).mono ?_; rintro _ w1 ⟨rfl, s1⟩
      go_wp2
      go_ret
      exact ⟨ret_bool HE.out.symm, eb.trans s1⟩
    have HZ : Hid (Z = extTail (ext a b) p q) := HYES.out (by rw [g1, g2, g3, g4]; rfl)
    rw [g4] at CB
    clear HNO HYES g1 g2 g3 g4
    unfold extTail at HZ
    obtain ⟨_, W4, hW4, s4⟩ : ∃ _ : Unit, ∃ W4 : World, Hid (W4 = W4) ∧ Ext w w := ⟨(), w, rfl, Ext.refl w⟩
    clear hW4 s4
    by_cases h7 : p.kind = 7
    · rw [if_pos h7] at HZ
      have hq7 : q.kind = 7 := by have := h1; simp at this; omega
      have HC := Lib.hid (fa.cho h7).1; have HC' := Lib.hid (fb.cho hq7).1
      have hp0 : 0 < p.kids.length := by have := HC.out; omega
      have hq0 : 0 < q.kids.length := by have := HC'.out; omega
      have k7 : (p.kind == 7) = true := by simpa using h7
      have I0 := Lib.hid (IH.out 0 hp0 (kd q 0) (HJ.out 0 hq0))
      have CI : Hid (∀ (t : Int) w', Ext w w' → Gives Try.prog 70 #[vrule q (.slice Ab' q.bytes.length cb') (.slice An' q.names.length cn') (.slice At' q.tags.length ct') (.slice Ak' q.kids.length ck'), .int .i64 t, .int .i64 0] w' (.int .i64 (if tagN q.tags t < q.tags.length then (kd q (tagN q.tags t + 1) : Int) else -1))) :=
        fun t w' e => sItem_c q Ab' cb' An' cn' At' ct' Ak' ck' t w' (HSB.out.ext e) hq7 HC'.out kb.out
      unfold vrule at CI
      rw [HLQ.out] at CI
      obtain ⟨bk, ok, hAk, hbk, hck⟩ := HSA.out.k.at 0 hp0
      obtain ⟨bk', ok', hAk', hbk', hck'⟩ := HSB.out.k.at 0 hq0
      subst hAk; subst hAk'
      rw [ka.out 0 hp0] at hck
      rw [kb.out 0 hq0] at hck'
      simp only [Nat.add_zero, vint] at hck hck'
      have hz0 := Lib.hid (fun (h : ext a b (kd p 0) (kd q 0) = false) => HZ.out.trans (by rw [h]; rfl : (ext a b (kd p 0) (kd q 0) && allN p.tags.length (extTag (ext a b) p q)) = false))
      have hz1 := Lib.hid (fun (h : ext a b (kd p 0) (kd q 0) = true) => HZ.out.trans (by rw [h]; rfl : (ext a b (kd p 0) (kd q 0) && allN p.tags.length (extTag (ext a b) p q)) = allN p.tags.length (extTag (ext a b) p q)))
      clear HZ h7 hq7 fa fb
      generalize kd p 0 = x0 at *
      generalize kd q 0 = y0 at *
      generalize ext a b x0 y0 = z0 at *
      go_enter Try.func64, Try.ntmps64
      go_wp2_with fail
      refine (CB.out _ eb).mono ?_; rintro _ w1 ⟨rfl, s1⟩
      replace B0 := fun w' (e : Ext w1 w') => B0 w' (Ext.trans s1 e); replace B1 := fun w' (e : Ext w1 w') => B1 w' (Ext.trans s1 e); replace B2 := fun w' (e : Ext w1 w') => B2 w' (Ext.trans s1 e); replace B3 := fun w' (e : Ext w1 w') => B3 w' (Ext.trans s1 e)
      have e1 := eb.trans s1
      replace hck := fun w' (e : Ext w1 w') => hck w' (Ext.trans e1 e); replace hck' := fun w' (e : Ext w1 w') => hck' w' (Ext.trans e1 e)
      clear s1 eb m0 m1 m2 m3 m4 m5 m6 m7 r0 r1 r2 r3 r4 r5 r6 r7
      go_wp2_with fail
      refine wp_region_quiet_below (by kernel_rfl) (by kernel_rfl) ?_
      repeat (go_big_quiet_step ((go_at_call 64; exact Calls.regrown_of (I0.out _ (e1.trans (by first | exact Ext.refl _ | assumption | exact Ext_regrown _ _ (Ext.refl _)))))))
      refine wpQuiet_nil ?_
      rintro w2 ⟨⟨nq, osq⟩, hq⟩
      have ew2 := ext_of_q hq
      clear hq nq osq
      cases z0
      · have HE := Lib.hid (hz0.out rfl); clear hz0 hz1
        go_wp2
        go_ret
        exact ⟨ret_bool HE.out.symm, e1.trans ew2⟩
      · have HE := Lib.hid (hz1.out rfl); clear hz0 hz1
        clear hck hck'
        have e2 := e1.trans ew2
        go_wp2
        go_loopw [11] (fun ix wr => ∃ k : Nat, k ≤ p.tags.length ∧ ix = .int .i64 k ∧ Hid (∀ t, t < k → extTag (ext a b) p q t = true) ∧ Ext w1 wr) (fun ix _ => p.tags.length - (intOf ix).toNat)
        case atStart => exact ⟨0, by omega, rfl, (fun t ht => by omega), ew2⟩
        case round =>
          clear ew2 e2
          obtain ⟨k, hk, rfl, hn, he⟩ := hrel
          by_cases hlt : k < p.tags.length
          · obtain ⟨bt, ot, hAt, hbt, hct⟩ := HSA.out.t.at k hlt
            subst hAt
            have hkl : k + 1 < p.kids.length := by have := HC.out; omega
            obtain ⟨bk2, ok2, hAk2, hbk2, hck2⟩ := HSA.out.k.at (k + 1) hkl
            injection hAk2 with hAk2; injection hAk2 with q1 q2; subst q1; subst q2
            rw [ka.out (k + 1) hkl] at hck2
            replace hct := fun w' (e : Ext w1 w') => hct w' (Ext.trans e1 e); replace hck2 := fun w' (e : Ext w1 w') => hck2 w' (Ext.trans e1 e)
            have hgt : p.tags.getD k 0 = p.tags[k] := by simp [hlt]
            have HET : Hid (extTag (ext a b) p q k = (decide (tagN q.tags p.tags[k] < q.tags.length) && ext a b (kd p (k + 1)) (kd q (tagN q.tags p.tags[k] + 1)))) := by show _ = _; unfold extTag; rw [hgt]
            have YES : Hid (extTag (ext a b) p q k = true → ∀ t, t < k + 1 → extTag (ext a b) p q t = true) := fun h => upTo hn.out h
            have NO : Hid (extTag (ext a b) p q k = false → Z = false) := fun h => HE.out.trans (allN_no hlt h)
            have C := Lib.hid (CI.out p.tags[k])
            clear hgt hn
            generalize p.tags[k] = x at *
            have d1 : decide ((k : Int) < (p.tags.length : Int)) = true := decide_eq_true (by omega)
            by_cases hT : tagN q.tags x < q.tags.length
            · rw [decide_eq_true hT, Bool.true_and] at HET
              rw [if_pos hT] at C
              have I1 := Lib.hid (IH.out (k + 1) hkl (kd q (tagN q.tags x + 1)) (HJ.out _ (by have := HC'.out; omega)))
              clear hT
              generalize kd q (tagN q.tags x + 1) = y at *
              generalize kd p (k + 1) = u at *
              rw [HET.out] at YES NO
              generalize ext a b u y = z at *
              clear HET
              go_wp2_with fail
              refine wp_region_quiet_below (by kernel_rfl) (by kernel_rfl) ?_
              repeat (go_big_quiet_step ((go_at_call 70; exact Calls.regrown_of (C.out _ (e1.trans (by first | assumption | exact Ext_regrown _ _ he))))))
              refine wpQuiet_nil ?_
              rintro w3 ⟨⟨nq, osq⟩, hq⟩
              have ew3 := ext_of_q hq
              clear hq nq osq
              have e3 := he.trans ew3
              have dy : decide ((y : Int) < 0) = false := decide_eq_false (by omega)
              go_wp2_with fail
              refine wp_region_quiet_below (by kernel_rfl) (by kernel_rfl) ?_
              repeat (go_big_quiet_step ((go_at_call 64; exact Calls.regrown_of (I1.out _ (e1.trans (by first | assumption | exact Ext_regrown _ _ e3))))))
              refine wpQuiet_nil ?_
              rintro w4 ⟨⟨nq, osq⟩, hq⟩
              have ew4 := ext_of_q hq
              clear hq nq osq
              have e4 := e3.trans ew4
              cases z
              · have HF := Lib.hid (NO.out rfl); clear YES NO
                go_wp2
                go_ret
                exact ⟨ret_bool HF.out.symm, e1.trans e4⟩
              · have HF := Lib.hid (YES.out rfl); clear YES NO
                go_wp2
                go_roundw
                case rel =>
                  iterate 32 apply Exists.intro
                  refine ⟨?_, rfl⟩
                  exact ⟨k + 1, by omega, by go_num, HF, e4⟩
                case measure => simp [intOf]; omega
            · rw [decide_eq_false hT, Bool.false_and] at HET
              rw [if_neg hT] at C
              have HF := Lib.hid (NO.out HET.out)
              clear YES NO HET hT
              go_wp2_with fail
              refine wp_region_quiet_below (by kernel_rfl) (by kernel_rfl) ?_
              repeat (go_big_quiet_step ((go_at_call 70; exact Calls.regrown_of (C.out _ (e1.trans (by first | assumption | exact Ext_regrown _ _ he))))))
              refine wpQuiet_nil ?_
              rintro w3 ⟨⟨nq, osq⟩, hq⟩
              have ew3 := ext_of_q hq
              clear hq nq osq
              have e3 := he.trans ew3
              go_wp2
              refine wp_region_quiet_below (by kernel_rfl) (by kernel_rfl) ?_
              repeat (go_big_quiet_step (fail))
              refine wpQuiet_nil ?_
              rintro w4 ⟨⟨nq, osq⟩, hq⟩
              have ew4 := ext_of_q hq
              clear hq nq osq
              have e4 := e3.trans ew4
              go_wp2
              go_ret
              exact ⟨ret_bool HF.out.symm, e1.trans e4⟩
          · have HF : Hid (Z = true) := HE.out.trans (allN_yes fun t ht => hn.out t (by omega))
            have d1 : decide ((k : Int) < (p.tags.length : Int)) = false := decide_eq_false (by omega)
            go_wp2
            go_ret
            exact ⟨ret_bool HF.out.symm, e1.trans he⟩
    · rw [if_neg h7] at HZ
      have k7 : (p.kind == 7) = false := by simpa using h7
      clear h7 fa fb
      cases g5 : eqNms p.names q.names
      · have HE : Hid (Z = false) := HZ.out.trans (by rw [g5]; rfl)
        rw [g5] at CT
        clear HZ g5
        go_enter Try.func64, Try.ntmps64
        go_wp2_with fail
        refine (CB.out _ eb).mono ?_; rintro _ w1 ⟨rfl, s1⟩
        have e1 := eb.trans s1
        go_wp2_with fail
        refine (CT.out _ e1).mono ?_; rintro _ w2 ⟨rfl, s2⟩
        go_wp2
        go_ret
        exact ⟨ret_bool HE.out.symm, e1.trans s2⟩
      rw [g5] at CT
      by_cases g6 : p.kids.length = q.kids.length
      · have HE : Hid (Z = allN p.kids.length (fun t => ext a b (kd p t) (kd q t))) := HZ.out.trans (by rw [g5, g6]; simp)
        have H6 := Lib.hid g6
        clear HZ g5 g6
        go_enter Try.func64, Try.ntmps64
        go_wp2_with fail
        refine (CB.out _ eb).mono ?_; rintro _ w1 ⟨rfl, s1⟩
        have e1 := eb.trans s1
        go_wp2_with fail
        refine (CT.out _ e1).mono ?_; rintro _ w2 ⟨rfl, s2⟩
        replace B0 := fun w' (e : Ext w2 w') => B0 w' (Ext.trans (s1.trans s2) e); replace B1 := fun w' (e : Ext w2 w') => B1 w' (Ext.trans (s1.trans s2) e); replace B2 := fun w' (e : Ext w2 w') => B2 w' (Ext.trans (s1.trans s2) e); replace B3 := fun w' (e : Ext w2 w') => B3 w' (Ext.trans (s1.trans s2) e)
        have e2 := e1.trans s2
        clear s1 s2 eb e1 m0 m1 m2 m3 m4 m5 m6 m7 r0 r1 r2 r3 r4 r5 r6 r7
        have h6 : ((p.kids.length : Int) != (q.kids.length : Int)) = false := by have := H6.out; simp [this]
        go_wp2
        clear h6
        go_loopw [13] (fun ix wr => ∃ k : Nat, k ≤ p.kids.length ∧ ix = .int .i64 k ∧ Hid (∀ t, t < k → ext a b (kd p t) (kd q t) = true) ∧ Ext w2 wr) (fun ix _ => p.kids.length - (intOf ix).toNat)
        case atStart => exact ⟨0, by omega, rfl, (fun t ht => by omega), Ext.refl _⟩
        case round =>
          obtain ⟨k, hk, rfl, hn, he⟩ := hrel
          by_cases hlt : k < p.kids.length
          · have hlt' : k < q.kids.length := by have := H6.out; omega
            obtain ⟨bk, ok, hAk, hbk, hck⟩ := HSA.out.k.at k hlt
            obtain ⟨bk', ok', hAk', hbk', hck'⟩ := HSB.out.k.at k hlt'
            subst hAk; subst hAk'
            rw [ka.out k hlt] at hck
            rw [kb.out k hlt'] at hck'
            replace hck := fun w' (e : Ext w2 w') => hck w' (Ext.trans e2 e); replace hck' := fun w' (e : Ext w2 w') => hck' w' (Ext.trans e2 e)
            have YES : Hid (ext a b (kd p k) (kd q k) = true → ∀ t, t < k + 1 → ext a b (kd p t) (kd q t) = true) := fun h => upTo hn.out h
            have NO : Hid (ext a b (kd p k) (kd q k) = false → Z = false) := fun h => HE.out.trans (allN_no (f := fun t => ext a b (kd p t) (kd q t)) hlt h)
            have I1 := Lib.hid (IH.out k hlt (kd q k) (HJ.out _ hlt'))
            have d1 : decide ((k : Int) < (p.kids.length : Int)) = true := decide_eq_true (by omega)
            clear hn
            generalize kd p k = u at *
            generalize kd q k = y at *
            generalize ext a b u y = z at *
            go_wp2_with fail
            refine wp_region_quiet_below (by kernel_rfl) (by kernel_rfl) ?_
            repeat (go_big_quiet_step ((go_at_call 64; exact Calls.regrown_of (I1.out _ (e2.trans (by first | assumption | exact Ext_regrown _ _ he))))))
            refine wpQuiet_nil ?_
            rintro w4 ⟨⟨nq, osq⟩, hq⟩
            have ew4 := ext_of_q hq
            clear hq nq osq
            have e4 := he.trans ew4
            cases z
            · have HF := Lib.hid (NO.out rfl); clear YES NO
              go_wp2
              go_ret
              exact ⟨ret_bool HF.out.symm, e2.trans e4⟩
            · have HF := Lib.hid (YES.out rfl); clear YES NO
              go_wp2
              go_roundw
              case rel => exact ⟨k + 1, by omega, by go_num, HF, e4⟩
              case measure => simp [intOf]; omega
          · have HF : Hid (Z = true) := HE.out.trans (allN_yes fun t ht => hn.out t (by omega))
            have d1 : decide ((k : Int) < (p.kids.length : Int)) = false := decide_eq_false (by omega)
            go_wp2
            go_ret
            exact ⟨ret_bool HF.out.symm, e2.trans he⟩
      · have HE : Hid (Z = false) := HZ.out.trans (by rw [g5]; simp [g6])
        have h6 : ((p.kids.length : Int) != (q.kids.length : Int)) = true := by simp; omega
        clear HZ g5 g6
        go_enter Try.func64, Try.ntmps64
        go_wp2_with fail
        refine (CB.out _ eb).mono ?_; rintro _ w1 ⟨rfl, s1⟩
        have e1 := eb.trans s1
        go_wp2_with fail
        refine (CT.out _ e1).mono ?_; rintro _ w2 ⟨rfl, s2⟩
        have e2 := e1.trans s2
        replace B2 := fun w' (e : Ext w2 w') => B2 w' (Ext.trans (s1.trans s2) e); replace B3 := fun w' (e : Ext w2 w') => B3 w' (Ext.trans (s1.trans s2) e)
        go_wp2
        go_ret
        exact ⟨ret_bool HE.out.symm, e2⟩
end Go.Proofs.Ytophjmphjdhjoaa

/- ExtendsRule, Extends, SameFormat of the reference: the walks (from XExt6, for seats without the program's). -/
namespace Go.Proofs.Ytophjmphjdhjoaa
open Go.RowKit Go.Sort

theorem knownE_at {a : List DRule} {ra : Int} (h : knownB a ra = true) : ∃ i : Nat, ∃ _ : i < a.length, ra = (i : Int) := by
  unfold knownB at h; simp at h; exact ⟨ra.toNat, by omega, by omega⟩
theorem known_desc {ds : List DRule} {i : Int} (h : knownB ds i = true) : descOk ds = true := by unfold knownB at h; rw [Bool.and_eq_true] at h; exact h.1
set_option maxRecDepth 100000 in
set_option maxHeartbeats 4000000 in
theorem sExtRule_c (A A' : Option Addr) (a b : List DRule) (c c' : Nat) (ra rb : Int) (w : World) (ha : RdD w A a c) (hb : RdD w A' b c') (hsa : ShortD a) (hwa : WfD a) (hsb : ShortD b) (hwb : WfD b) :
    Gives Try.prog 52 #[vdesc (.slice A a.length c), .int .i64 ra, vdesc (.slice A' b.length c'), .int .i64 rb] w (.bool (extRule a b ra rb)) := by
  have eb := Ext_alloc (.cells #[.slice A' b.length c'] 26) (Ext_alloc (.cells #[.slice A a.length c] 26) (Ext.refl w))
  have BX := fun w' (e : Ext ((w.alloc (.cells #[.slice A a.length c] 26)).alloc (.cells #[.slice A' b.length c'] 26)) w') => boxed2 e
  have B0 := fun w' e => (BX w' e).1
  have B1 := fun w' e => (BX w' e).2.1
  clear BX
  have CA := Lib.hid (fun w h => sKnown_c A a c ra w h hsa hwa)
  have CB := Lib.hid (fun w h => sKnown_c A' b c' rb w h hsb hwb)
  have HA := Lib.hid ha; have HB := Lib.hid hb
  have HSA := Lib.hid hsa; have HSB := Lib.hid hsb
  clear ha hb hsa hsb hwa hwb
  have SX : Hid (∀ (i j : Nat), i < a.length → j < b.length → descOk a = true → descOk b = true → ∀ w', Ext w w' → Gives Try.prog 64 #[vdesc (.slice A a.length c), .int .i64 (i : Int), vdesc (.slice A' b.length c'), .int .i64 (j : Int)] w' (.bool (ext a b i j))) :=
    fun i j hi hj hva hvb w' e => sExt_c A A' a b c c' w HA.out HB.out hva hvb HSA.out HSB.out (i + 1) i (Nat.lt_succ_self _) hi j hj w' e
  unfold vdesc at *
  cases hka : knownB a ra
  · have HE : Hid (extRule a b ra rb = false) := by show _ = _; unfold extRule; rw [hka]; rfl
    rw [HE.out]
    rw [hka] at CA; clear hka
    go_enter Try.func52, Try.ntmps52
    go_wp2_with fail
    refine (CA.out _ (HA.out.ext eb)).mono ?_; rintro _ w1 ⟨rfl, s1⟩
    go_wp2
    go_ret
    exact ⟨rfl, eb.trans s1⟩
  cases hkb : knownB b rb
  · have HE : Hid (extRule a b ra rb = false) := by show _ = _; unfold extRule; rw [hka, hkb]; rfl
    rw [HE.out]
    rw [hka] at CA; rw [hkb] at CB; clear hka hkb
    go_enter Try.func52, Try.ntmps52
    go_wp2_with fail
    refine (CA.out _ (HA.out.ext eb)).mono ?_; rintro _ w1 ⟨rfl, s1⟩
    have e1 := eb.trans s1
    replace B1 := fun w' (e : Ext w1 w') => B1 w' (Ext.trans s1 e)
    go_wp2_with fail
    refine (CB.out _ (HB.out.ext e1)).mono ?_; rintro _ w2 ⟨rfl, s2⟩
    go_wp2
    go_ret
    exact ⟨rfl, e1.trans s2⟩
  have HVA := Lib.hid (known_desc hka); have HVB := Lib.hid (known_desc hkb)
  obtain ⟨i, hi, rfl⟩ := knownE_at hka
  obtain ⟨j, hj, rfl⟩ := knownE_at hkb
  have HE : Hid (extRule a b (i : Int) (j : Int) = ext a b i j) := by show _ = _; unfold extRule; rw [hka, hkb]; simp
  rw [HE.out]
  rw [hka] at CA; rw [hkb] at CB; clear hka hkb HE
  have C := Lib.hid (SX.out i j hi hj HVA.out HVB.out)
  generalize ext a b i j = z at *
  go_enter Try.func52, Try.ntmps52
  go_wp2_with fail
  refine (CA.out _ (HA.out.ext eb)).mono ?_; rintro _ w1 ⟨rfl, s1⟩
  have e1 := eb.trans s1
  replace B0 := fun w' (e : Ext w1 w') => B0 w' (Ext.trans s1 e)
  replace B1 := fun w' (e : Ext w1 w') => B1 w' (Ext.trans s1 e)
  go_wp2_with fail
  refine (CB.out _ (HB.out.ext e1)).mono ?_; rintro _ w2 ⟨rfl, s2⟩
  have e2 := e1.trans s2
  replace B0 := fun w' (e : Ext w2 w') => B0 w' (Ext.trans s2 e)
  replace B1 := fun w' (e : Ext w2 w') => B1 w' (Ext.trans s2 e)
  clear s1 s2 e1 eb CA CB
  go_wp2_with fail
  refine (C.out _ e2).mono ?_; rintro _ w3 ⟨rfl, s3⟩
  go_wp2
  go_ret
  exact ⟨rfl, e2.trans s3⟩
set_option maxRecDepth 100000 in
set_option maxHeartbeats 4000000 in
theorem sExtD_c (A A' : Option Addr) (a b : List DRule) (c c' : Nat) (w : World) (ha : RdD w A a c) (hb : RdD w A' b c') (hsa : ShortD a) (hwa : WfD a) (hsb : ShortD b) (hwb : WfD b) :
    Gives Try.prog 35 #[vdesc (.slice A a.length c), vdesc (.slice A' b.length c')] w (.bool (extD a b)) := by
  have eb := Ext_alloc (.cells #[.slice A' b.length c'] 26) (Ext_alloc (.cells #[.slice A a.length c] 26) (Ext.refl w))
  have BX := fun w' (e : Ext ((w.alloc (.cells #[.slice A a.length c] 26)).alloc (.cells #[.slice A' b.length c'] 26)) w') => boxed2 e
  have B0 := fun w' e => (BX w' e).1
  have B1 := fun w' e => (BX w' e).2.1
  clear BX
  have hla := ha.len; have hlb := hb.len
  have RA := Lib.hid (fun w => sRoot_c A a c w hla)
  have RB := Lib.hid (fun w => sRoot_c A' b c' w hlb)
  have CX : Hid (∀ w', Ext w w' → Gives Try.prog 52 #[vdesc (.slice A a.length c), .int .i64 ((a.length : Int) - 1), vdesc (.slice A' b.length c'), .int .i64 ((b.length : Int) - 1)] w' (.bool (extD a b))) :=
    fun w' e => sExtRule_c A A' a b c c' _ _ w' (ha.ext e) (hb.ext e) hsa hwa hsb hwb
  clear ha hb hsa hwa hsb hwb
  unfold vdesc at *
  generalize extD a b = z at *
  obtain ⟨W1, hW1⟩ : ∃ W1, W1 = ((w.alloc (.cells #[.slice A a.length c] 26)).alloc (.cells #[.slice A' b.length c'] 26)) := ⟨_, rfl⟩
  go_enter Try.func35, Try.ntmps35
  go_wp2_with fail
  refine wp_region_quiet_below (by kernel_rfl) (by kernel_rfl) ?_
  repeat (go_big_quiet_step ((first | (go_at_call 53; first | exact Calls.regrown_of (RA.out _) | exact Calls.regrown_of (RB.out _)) | (go_at_call 52; exact Calls.regrown_of (CX.out _ (eb.trans (Ext_regrown _ _ (Ext.refl _))))))))
  refine wpQuiet_nil ?_
  rintro w2 ⟨⟨nq, osq⟩, hq⟩
  have ew2 := ext_of_q hq
  clear hq nq osq
  go_wp2
  go_ret
  exact ⟨rfl, eb.trans ew2⟩
set_option maxRecDepth 100000 in
set_option maxHeartbeats 4000000 in
theorem sSame_c (A A' : Option Addr) (a b : List DRule) (c c' : Nat) (w : World) (ha : RdD w A a c) (hb : RdD w A' b c') (hsa : ShortD a) (hwa : WfD a) (hsb : ShortD b) (hwb : WfD b) :
    Gives Try.prog 17 #[vdesc (.slice A a.length c), vdesc (.slice A' b.length c')] w (.bool (sameF a b)) := by
  have eb := Ext_alloc (.cells #[.slice A' b.length c'] 26) (Ext_alloc (.cells #[.slice A a.length c] 26) (Ext.refl w))
  have BX := fun w' (e : Ext ((w.alloc (.cells #[.slice A a.length c] 26)).alloc (.cells #[.slice A' b.length c'] 26)) w') => boxed2 e
  have B0 := fun w' e => (BX w' e).1
  have B1 := fun w' e => (BX w' e).2.1
  clear BX
  have C1 := Lib.hid (fun w' (e : Ext w w') => sExtD_c A A' a b c c' w' (ha.ext e) (hb.ext e) hsa hwa hsb hwb)
  have C2 := Lib.hid (fun w' (e : Ext w w') => sExtD_c A' A b a c' c w' (hb.ext e) (ha.ext e) hsb hwb hsa hwa)
  clear ha hb hsa hwa hsb hwb
  unfold vdesc at *
  unfold sameF
  generalize extD a b = z at *
  generalize extD b a = y at *
  cases z
  · go_enter Try.func17, Try.ntmps17
    go_wp2_with fail
    refine (C1.out _ eb).mono ?_; rintro _ w1 ⟨rfl, s1⟩
    go_wp2
    go_ret
    exact ⟨ret_bool (by simp), eb.trans s1⟩
  · go_enter Try.func17, Try.ntmps17
    go_wp2_with fail
    refine (C1.out _ eb).mono ?_; rintro _ w1 ⟨rfl, s1⟩
    have e1 := eb.trans s1
    replace B0 := fun w' (e : Ext w1 w') => B0 w' (Ext.trans s1 e)
    replace B1 := fun w' (e : Ext w1 w') => B1 w' (Ext.trans s1 e)
    go_wp2_with fail
    refine (C2.out _ e1).mono ?_; rintro _ w2 ⟨rfl, s2⟩
    go_wp2
    go_ret
    exact ⟨ret_bool (by simp), e1.trans s2⟩
end Go.Proofs.Ytophjmphjdhjoaa
