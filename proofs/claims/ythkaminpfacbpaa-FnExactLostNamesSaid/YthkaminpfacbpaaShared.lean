/- Names of rules: FindRule, DescriptionNames, SharedNames. -/
import Derived.Test.YthkaminpfacbpaaValid1
import Derived.Test.YthkaminpfacbpaaDescTo
namespace Go.Proofs.Ythkaminpfacbpaa
open Go.RowKit Go.Sort

/-- the first rule with this name, or -1 -/
def findR (ds : List DRule) (s : ByteArray) : Int := match ds.findIdx? (fun r => r.nm.toList == s.toList) with | some i => (i : Int) | none => -1
def nmsOf (ds : List DRule) : List ByteArray := ds.map DRule.nm
theorem findR_at {ds : List DRule} {s : ByteArray} {k : Nat} (hk : k < ds.length) (h : (ds[k].nm.toList == s.toList) = true) (hn : ∀ j (hj : j < ds.length), j < k → (ds[j].nm.toList == s.toList) = false) : findR ds s = (k : Int) := by
  unfold findR
  have : ds.findIdx? (fun r => r.nm.toList == s.toList) = some k := by
    rw [List.findIdx?_eq_some_iff_getElem]
    exact ⟨hk, h, fun j hj => by rw [hn j (by omega) hj]; simp⟩
  rw [this]
theorem findR_none {ds : List DRule} {s : ByteArray} (hn : ∀ j (hj : j < ds.length), (ds[j].nm.toList == s.toList) = false) : findR ds s = -1 := by
  unfold findR
  have : ds.findIdx? (fun r => r.nm.toList == s.toList) = none := by
    rw [List.findIdx?_eq_none_iff]
    intro x hx
    obtain ⟨j, hj, rfl⟩ := List.getElem_of_mem hx
    exact hn j hj
  rw [this]
theorem findR_has (ds : List DRule) (s : ByteArray) : decide (0 ≤ findR ds s) = hasNm (nmsOf ds) s := by
  unfold findR hasNm nmsOf
  cases h : ds.findIdx? (fun r => r.nm.toList == s.toList) with
  | none =>
    rw [List.findIdx?_eq_none_iff] at h
    have : (ds.map DRule.nm).any (fun x => x.toList == s.toList) = false := by
      rw [List.any_map, List.any_eq_false]
      intro x hx
      have := h x hx
      simp only [Function.comp_apply]
      rw [this]; simp
    rw [this]; simp
  | some i =>
    rw [List.findIdx?_eq_some_iff_getElem] at h
    obtain ⟨hi, h1, _⟩ := h
    have : (ds.map DRule.nm).any (fun x => x.toList == s.toList) = true := by
      rw [List.any_map, List.any_eq_true]
      exact ⟨ds[i], List.getElem_mem hi, h1⟩
    rw [this]; simp
theorem findR_lt (ds : List DRule) (s : ByteArray) : -1 ≤ findR ds s ∧ findR ds s < ds.length ∨ findR ds s = -1 := by
  unfold findR
  cases h : ds.findIdx? (fun r => r.nm.toList == s.toList) with
  | none => exact .inr rfl
  | some i =>
    rw [List.findIdx?_eq_some_iff_getElem] at h
    obtain ⟨hi, _, _⟩ := h
    left; simp only; omega
set_option maxRecDepth 100000 in
set_option maxHeartbeats 2000000 in
theorem sFind_c (A : Option Addr) (ds : List DRule) (c : Nat) (s : ByteArray) (w : World) (hd : RdD w A ds c) :
    Gives Try.prog 72 #[vdesc (.slice A ds.length c), .string s] w (.int .i64 (findR ds s)) := by
  have hl := hd.len
  have eb := Ext_alloc (.cells #[.slice A ds.length c] 41) (Ext.refl w)
  have BX := fun w' (e : Ext (w.alloc (.cells #[.slice A ds.length c] 41)) w') => boxed e
  unfold vdesc
  go_enter Try.func72, Try.ntmps72
  go_wp2
  go_loopw [5] (fun q wr => ∃ k : Nat, k ≤ ds.length ∧ q = .int .i64 k ∧ Hid (∀ j (hj : j < ds.length), j < k → (ds[j].nm.toList == s.toList) = false) ∧ Ext (w.alloc (.cells #[.slice A ds.length c] 41)) wr) (fun q _ => ds.length - (intOf q).toNat)
  case atStart => exact ⟨0, by omega, rfl, (fun j _ hj => by omega), Ext.refl _⟩
  case round =>
    obtain ⟨k, hk, rfl, ht, he⟩ := hrel
    by_cases hlt : k < ds.length
    · obtain ⟨b, off, Ab, cb, An, cn, At, ct, Ak, ck, rfl, hb, _, hR⟩ := hd.at k hlt
      have YES : Hid ((ds[k].nm.toList == s.toList) = true → findR ds s = (k : Int)) := fun h => findR_at hlt h ht.out
      have NO : Hid ((ds[k].nm.toList == s.toList) = false → ∀ j (hj : j < ds.length), j < k + 1 → (ds[j].nm.toList == s.toList) = false) := by
        intro hy j hj hjk
        rcases (by omega : j < k ∨ j = k) with hjk | rfl
        · exact ht.out j hj hjk
        · exact hy
      generalize ds[k] = p at *
      obtain ⟨m0, m1, m2, m3, m4, m5, m6, m7⟩ := hR.ext eb
      clear hd hR ht
      cases hq : (p.nm.toList == s.toList)
      · have HE := Lib.hid (NO.out hq); clear YES NO
        go_wp2
        go_roundw
        case rel => exact ⟨k+1, by omega, by go_num, HE.out, he⟩
        case measure => simp [intOf]; omega
      · have HE := Lib.hid (YES.out hq); clear YES NO
        go_wp2
        go_ret
        exact ⟨ret_i64 HE.out.symm, eb.trans he⟩
    · have HE : Hid (findR ds s = -1) := findR_none (fun j hj => ht.out j hj (by omega))
      go_wp2
      go_ret
      exact ⟨ret_i64 HE.out.symm, eb.trans he⟩

set_option maxRecDepth 100000 in
set_option maxHeartbeats 2000000 in
theorem iFind_c (A : Option Addr) (ds : List DRule) (c : Nat) (s : ByteArray) (w : World) (hd : RdD w A ds c) :
    Gives Try.prog 100 #[vdesc (.slice A ds.length c), .string s] w (.int .i64 (findR ds s)) := by
  have hl := hd.len
  have eb := Ext_alloc (.cells #[.slice A ds.length c] 41) (Ext.refl w)
  have BX := fun w' (e : Ext (w.alloc (.cells #[.slice A ds.length c] 41)) w') => boxed e
  unfold vdesc
  go_enter Try.func100, Try.ntmps100
  go_wp2
  go_loopw [10] (fun q wr => ∃ k : Nat, k ≤ ds.length ∧ q = .int .i64 k ∧ Hid (∀ j (hj : j < ds.length), j < k → (ds[j].nm.toList == s.toList) = false) ∧ Ext (w.alloc (.cells #[.slice A ds.length c] 41)) wr) (fun q _ => ds.length - (intOf q).toNat)
  case atStart => exact ⟨0, by omega, rfl, (fun j _ hj => by omega), Ext.refl _⟩
  case round =>
    obtain ⟨k, hk, rfl, ht, he⟩ := hrel
    by_cases hlt : k < ds.length
    · obtain ⟨b, off, Ab, cb, An, cn, At, ct, Ak, ck, rfl, hb, _, hR⟩ := hd.at k hlt
      have YES : Hid ((ds[k].nm.toList == s.toList) = true → findR ds s = (k : Int)) := fun h => findR_at hlt h ht.out
      have NO : Hid ((ds[k].nm.toList == s.toList) = false → ∀ j (hj : j < ds.length), j < k + 1 → (ds[j].nm.toList == s.toList) = false) := by
        intro hy j hj hjk
        rcases (by omega : j < k ∨ j = k) with hjk | rfl
        · exact ht.out j hj hjk
        · exact hy
      generalize ds[k] = p at *
      obtain ⟨m0, m1, m2, m3, m4, m5, m6, m7⟩ := hR.ext eb
      clear hd hR ht
      cases hq : (p.nm.toList == s.toList)
      · have HE := Lib.hid (NO.out hq); clear YES NO
        go_wp2
        go_roundw
        case rel => exact ⟨k+1, by omega, by go_num, HE.out, (Ext_alloc _ he)⟩
        case measure => simp [intOf]; omega
      · have HE := Lib.hid (YES.out hq); clear YES NO
        go_wp2
        go_ret
        exact ⟨ret_i64 HE.out.symm, eb.trans (Ext_alloc _ he)⟩
    · have HE : Hid (findR ds s = -1) := findR_none (fun j hj => ht.out j hj (by omega))
      go_wp2
      go_ret
      exact ⟨ret_i64 HE.out.symm, eb.trans he⟩
section
variable {P : Program} {ops : Array Oper} {rest : List Oper} {o : Oper} {a : Act} {Q : Exit → Act → World → Prop}
/-- append(s, y1, .., ym), with what becomes of the block -/
theorem wpList_appNB (hgd : o.guard = none) (s x : Operand) (t : TypeId) (ho : o.op = .call { callee := .builtin .append, args := #[s, x], argTypes := #[t, t] })
    {e : TypeId} {bytes : Nat} {z : Value} (hE : Elem P t e 1 bytes z) (hby : 1 ≤ bytes) (w0 w : World) {α : Type} (f : α → Value) (hf : ∀ x, (f x).oneCell' = true) (v : Value) (hs : a.eval s = v) (m c g : Nat) (hx : a.eval x = .slice (some ⟨g, 0, none⟩) m c) (hg : g = w.heap.size)
    (l ys : List α) (cs : Array Value) (hcs : cs = (ys.map f).toArray) (hown : OwnL f e w0 w v l) (he : Ext w0 w) (hm : m = ys.length)
    (hb : (l.length + ys.length) * bytes ≤ 140737488355328)
    (h : ∀ v' w', OwnL f e w0 w' v' (l ++ ys) → Ext w0 w' → (v'.ownBlock = v.ownBlock ∨ v'.ownBlock = some (w.alloc (.cells cs e)).heap.size) → (w.alloc (.cells cs e)).grownBy w' v.ownBlock → wpList P ops Q rest (a.put o.dst v') w') :
    wpList P ops Q (o :: rest) a (w.alloc (.cells cs e)) := by
  subst hcs; subst hg
  refine wpList_appL hgd s x t ho hE hby w0 _ f hf v hs (some ⟨w.heap.size, 0, none⟩) m c hx l ys (hown.ext (Ext_alloc _ (Ext.refl w))) (Ext_alloc _ he) hm (fun _ => ⟨_, rfl, fun j u hu => ?_⟩) hb h
  rw [World.cell?_alloc_at']; exact hu
end
theorem take_snoc' {α β : Type} (f : α → β) (l : List α) (k : Nat) (hk : k < l.length) : (l.take k).map f ++ [f l[k]] = (l.take (k+1)).map f := by
  rw [List.take_succ_eq_append_getElem hk, List.map_append]; rfl
set_option maxRecDepth 100000 in
set_option maxHeartbeats 2000000 in
theorem iNames_c (A : Option Addr) (ds : List DRule) (c : Nat) (w : World) (hd : RdD w A ds c) (hL : ds.length ≤ 1048576) :
    Calls Try.prog 74 #[vdesc (.slice A ds.length c)] w fun e w' => ∃ v, e = .returned v ∧ OwnL vstr 9 w w' v (nmsOf ds) ∧ Ext w w' := by
  have hl := hd.len
  have eb := Ext_alloc (.cells #[.slice A ds.length c] 41) (Ext.refl w)
  have BX := fun w' (e : Ext (w.alloc (.cells #[.slice A ds.length c] 41)) w') => boxed e
  unfold vdesc
  go_enter Try.func74, Try.ntmps74
  go_wp2
  obtain ⟨W0, hW0⟩ : ∃ W0, W0 = (w.alloc (.cells #[.slice A ds.length c] 41)) := ⟨_, rfl⟩
  rw [← hW0] at eb BX ⊢
  have HW0 := Lib.hid hW0; clear hW0
  go_loopw [3, 10] (fun t q wr => ∃ k : Nat, k ≤ ds.length ∧ q = .int .i64 k ∧ Hid (OwnL vstr 9 W0 wr t ((ds.take k).map DRule.nm)) ∧ Ext W0 wr) (fun _ q _ => ds.length - (intOf q).toNat)
  case atStart => exact ⟨0, by omega, rfl, by
    have := OwnL.empty (f := vstr) (e := 9) (Ext.refl W0)
    have hs : W0.heap.size = w.heap.size + 1 := by rw [HW0.out]; simp
    rw [hs] at this
    simpa [Hid] using this, Ext_alloc _ (Ext.refl _)⟩
  case round =>
    obtain ⟨k, hk, rfl, ho, he⟩ := hrel
    by_cases hlt : k < ds.length
    · obtain ⟨b, off, Ab, cb, An, cn, At, ct, Ak, ck, rfl, hb, _, hR⟩ := hd.at k hlt
      have HT := Lib.hid (take_snoc' DRule.nm ds k hlt)
      have hlen : ((ds.take k).map DRule.nm).length = k := by rw [List.length_map, List.length_take]; omega
      have HB : Hid ((((ds.take k).map DRule.nm).length + [ds[k].nm].length) * 16 ≤ 140737488355328) := by show _ ≤ _; rw [hlen]; simp only [List.length_cons, List.length_nil]; omega
      generalize ds[k] = p at *
      obtain ⟨m0, m1, m2, m3, m4, m5, m6, m7⟩ := hR.ext eb
      clear hd hR hlen
      have ex := Ext_alloc (.cells #[.string p.nm, .int .i64 p.kind, .int .i64 p.size, .bool p.little, .slice Ab p.bytes.length cb, .slice An p.names.length cn, .slice At p.tags.length ct, .slice Ak p.kids.length ck] 68) (Ext.refl wr)
      have HO := Lib.hid (ho.out.ext ex)
      have hex := he.trans ex
      go_wp2_with (first
        | (at_builtin; go_must (refine wpList_appNB rfl (.tmp 14) (.tmp 17) _ rfl E_str (by omega) W0 _ vstr (fun _ => rfl) _ rfl _ _ _ rfl (by simp) ((ds.take k).map DRule.nm) [p.nm] _ rfl HO.out hex rfl HB.out ?_); intro v1 w1 ho1 he1 _ _; rw [HT.out] at ho1))
      go_roundw
      case rel => exact ⟨k+1, by omega, by go_num, ho1, he1⟩
      case measure => simp [intOf]; omega
    · have HE : Hid ((ds.take k).map DRule.nm = nmsOf ds) := by show _ = _; rw [List.take_of_length_le (by omega)]; rfl
      go_wp2
      go_ret
      refine ⟨_, rfl, ?_, eb.trans he⟩
      rw [← HE.out]; exact ho.out.down eb.size
/-- the names that both have, in the first one's order -/
def shared (a b : List DRule) : List ByteArray := (nmsOf a).filter (hasNm (nmsOf b))
def shr (a b : List DRule) (k : Nat) : List ByteArray := ((a.take k).map DRule.nm).filter (hasNm (nmsOf b))
theorem shr_yes {a b : List DRule} {k : Nat} (hk : k < a.length) (h : hasNm (nmsOf b) a[k].nm = true) : shr a b k ++ [a[k].nm] = shr a b (k+1) := by
  unfold shr; rw [List.take_succ_eq_append_getElem hk, List.map_append, List.filter_append]; simp [h]
theorem shr_no {a b : List DRule} {k : Nat} (hk : k < a.length) (h : hasNm (nmsOf b) a[k].nm = false) : shr a b k = shr a b (k+1) := by
  unfold shr; rw [List.take_succ_eq_append_getElem hk, List.map_append, List.filter_append]; simp [h]
theorem shr_len (a b : List DRule) (k : Nat) : (shr a b k).length ≤ k := by
  unfold shr; have h1 := List.length_filter_le (hasNm (nmsOf b)) ((a.take k).map DRule.nm); rw [List.length_map, List.length_take] at h1; omega
theorem shared_len {a b : List DRule} {n : Nat} (h : szD a ≤ n) : (shared a b).length ≤ n := by
  unfold shared; have h1 := List.length_filter_le (hasNm (nmsOf b)) (nmsOf a); unfold nmsOf at h1 ⊢; rw [List.length_map] at h1; unfold szD at h; omega
set_option maxRecDepth 100000 in
set_option maxHeartbeats 2000000 in
theorem sShared_c (A A' : Option Addr) (a b : List DRule) (c c' : Nat) (w : World) (ha : RdD w A a c) (hb : RdD w A' b c') (hL : a.length ≤ 1048576) :
    Calls Try.prog 23 #[vdesc (.slice A a.length c), vdesc (.slice A' b.length c')] w fun e w' => ∃ v, e = .returned v ∧ OwnL vstr 9 w w' v (shared a b) ∧ Ext w w' := by
  have hl := ha.len
  have eb := Ext_alloc (.cells #[.slice A' b.length c'] 41) (Ext_alloc (.cells #[.slice A a.length c] 41) (Ext.refl w))
  have BX := fun w' (e : Ext ((w.alloc (.cells #[.slice A a.length c] 41)).alloc (.cells #[.slice A' b.length c'] 41)) w') => boxed2 e
  have B0 := fun w' e => (BX w' e).1
  have B1 := fun w' e => (BX w' e).2.1
  clear BX
  have CF := Lib.hid (fun s w h => sFind_c A' b c' s w h)
  unfold vdesc at *
  go_enter Try.func23, Try.ntmps23
  go_wp2
  obtain ⟨W0, hW0⟩ : ∃ W0, W0 = ((w.alloc (.cells #[.slice A a.length c] 41)).alloc (.cells #[.slice A' b.length c'] 41)) := ⟨_, rfl⟩
  rw [← hW0] at eb B0 B1 ⊢
  have HW0 := Lib.hid hW0; clear hW0
  go_loopw [5, 6] (fun t q wr => ∃ k : Nat, k ≤ a.length ∧ q = .int .i64 k ∧ Hid (OwnL vstr 9 W0 wr t (shr a b k)) ∧ Ext W0 wr) (fun _ q _ => a.length - (intOf q).toNat)
  case atStart => exact ⟨0, by omega, rfl, by
    have := OwnL.empty (f := vstr) (e := 9) (Ext.refl W0)
    have hs : W0.heap.size = w.heap.size + 1 + 1 := by rw [HW0.out]; simp
    rw [hs] at this
    simpa [Hid, shr] using this, Ext_alloc _ (Ext.refl _)⟩
  case round =>
    obtain ⟨k, hk, rfl, ho, he⟩ := hrel
    by_cases hlt : k < a.length
    · obtain ⟨ba, off, Ab, cb, An, cn, At, ct, Ak, ck, rfl, hba, _, hR⟩ := ha.at k hlt
      have HY : Hid (hasNm (nmsOf b) a[k].nm = true → shr a b k ++ [a[k].nm] = shr a b (k+1)) := shr_yes hlt
      have HN : Hid (hasNm (nmsOf b) a[k].nm = false → shr a b k = shr a b (k+1)) := shr_no hlt
      have hsl := shr_len a b k
      have HB : Hid (((shr a b k).length + [a[k].nm].length) * 16 ≤ 140737488355328) := by show _ ≤ _; simp only [List.length_cons, List.length_nil]; omega
      have HQ : Hid (decide (0 ≤ findR b a[k].nm) = hasNm (nmsOf b) a[k].nm) := findR_has b _
      generalize a[k] = p at *
      obtain ⟨m0, m1, m2, m3, m4, m5, m6, m7⟩ := hR.ext eb
      clear ha hR hsl
      have C := Lib.hid (fun w h => CF.out p.nm w h)
      generalize findR b p.nm = z at *
      cases hq : decide (0 ≤ z)
      · have HE := Lib.hid (HN.out (by rw [← HQ.out, hq])); clear HY HN HQ
        go_wp2_with fail
        refine wp_region_quiet_below (by kernel_rfl) (by kernel_rfl) ?_
        repeat (go_big_quiet_step ((go_at_call 72; exact Calls.regrown_of (C.out _ (hb.ext (eb.trans (by first | assumption | exact Ext_regrown _ _ he)))))))
        refine wpQuiet_nil ?_
        rintro w1 ⟨⟨nq, osq⟩, hq⟩
        have ew1 := ext_of_q hq
        clear hq nq osq
        have ho1 := ho.out.ext ew1
        rw [HE.out] at ho1
        have H1 := Lib.hid ho1; clear ho1
        go_wp2
        go_roundw
        case rel => exact ⟨k+1, by omega, by go_num, H1, he.trans ew1⟩
        case measure => simp [intOf]; omega
      · have HE := Lib.hid (HY.out (by rw [← HQ.out, hq])); clear HY HN HQ
        go_wp2_with fail
        refine wp_region_quiet_below (by kernel_rfl) (by kernel_rfl) ?_
        repeat (go_big_quiet_step ((go_at_call 72; exact Calls.regrown_of (C.out _ (hb.ext (eb.trans (by first | assumption | exact Ext_regrown _ _ he)))))))
        refine wpQuiet_nil ?_
        rintro w1 ⟨⟨nq, osq⟩, hq⟩
        have ew1 := ext_of_q hq
        clear hq nq osq
        have HO := Lib.hid (ho.out.ext ew1)
        have e1 := he.trans ew1
        go_wp2_with (first
          | (at_builtin; go_must (refine wpList_appN rfl (.tmp 24) (.tmp 31) _ rfl E_str (by omega) W0 _ vstr (fun _ => rfl) _ rfl _ _ rfl (shr a b k) [p.nm] _ rfl HO.out e1 rfl HB.out ?_); intro v1 w2 ho1 he1; rw [HE.out] at ho1))
        go_roundw
        case rel => exact ⟨k+1, by omega, by go_num, ho1, he1⟩
        case measure => simp [intOf]; omega
    · have HE : Hid (shr a b k = shared a b) := by show _ = _; unfold shr shared nmsOf; rw [List.take_of_length_le (by omega)]
      go_wp2
      go_ret
      refine ⟨_, rfl, ?_, eb.trans he⟩
      rw [← HE.out]; exact ho.out.down eb.size
set_option maxRecDepth 100000 in
set_option maxHeartbeats 4000000 in
theorem iShared_c (A A' : Option Addr) (a b : List DRule) (c c' : Nat) (w : World) (ha : RdD w A a c) (hb : RdD w A' b c') (hL : a.length ≤ 1048576) (hL' : b.length ≤ 1048576) :
    Calls Try.prog 25 #[vdesc (.slice A a.length c), vdesc (.slice A' b.length c')] w fun e w' => ∃ v, e = .returned v ∧ OwnL vstr 9 w w' v (shared a b) ∧ Ext w w' := by
  have hl := ha.len
  have eb := Ext_alloc (.cells #[.slice A' b.length c'] 41) (Ext_alloc (.cells #[.slice A a.length c] 41) (Ext.refl w))
  have BX := fun w' (e : Ext ((w.alloc (.cells #[.slice A a.length c] 41)).alloc (.cells #[.slice A' b.length c'] 41)) w') => boxed2 e
  have B0 := fun w' e => (BX w' e).1
  have B1 := fun w' e => (BX w' e).2.1
  clear BX
  have CN := Lib.hid (fun w h => iNames_c A' b c' w h hL')
  have hbn : (nmsOf b).length ≤ 140737488351232 := by unfold nmsOf; rw [List.length_map]; omega
  unfold vdesc at *
  obtain ⟨W0, hW0⟩ : ∃ W0, W0 = ((w.alloc (.cells #[.slice A a.length c] 41)).alloc (.cells #[.slice A' b.length c'] 41)) := ⟨_, rfl⟩
  rw [← hW0] at eb B0 B1
  have hs0 : W0.heap.size = w.heap.size + 1 + 1 := by rw [hW0]; simp
  have OE := OwnL.empty (f := vstr) (e := 9) (Ext.refl W0)
  rw [hs0] at OE
  have HOE := Lib.hid OE; have HW0 := Lib.hid hW0
  have x0 := Ext_alloc (.cells #[] 9) (Ext.refl W0)
  have hx0 : (W0.alloc (.cells #[] 9)).heap.size = w.heap.size + 1 + 1 + 1 := by simp [hs0]
  have HX0 := Lib.hid hx0
  clear OE hW0 hx0
  go_enter Try.func25, Try.ntmps25
  go_wp2_with fail
  rw [← HW0.out]
  refine (CN.out _ (hb.ext (eb.trans x0))).mono ?_; rintro _ w1 ⟨v6, rfl, o6, s1⟩
  have HFAR : Hid (∀ g, v6.ownBlock = some g → w.heap.size + 1 + 1 + 1 ≤ g) := fun g hg => by have := (World.ownsRow.lt o6 g hg).1; have := HX0.out; omega
  obtain ⟨A6, c6, rfl, _⟩ := OwnL.rd o6 hbn
  have HO6 := Lib.hid (o6.down (w0 := W0) (by have := x0.size; omega))
  have HO1 := Lib.hid (HOE.out.ext s1)
  have e1 := x0.trans s1
  clear o6 HOE s1 x0 hb CN
  generalize hNB : nmsOf b = NB at *
  have HNB := Lib.hid hNB; clear hNB
  go_wp2
  go_loopw [5, 15] (fun t q wr => ∃ k : Nat, k ≤ a.length ∧ q = .int .i64 k ∧ Hid (OwnL vstr 9 W0 wr t (((a.take k).map DRule.nm).filter (hasNm NB))) ∧ Hid (OwnL vstr 9 W0 wr (.slice A6 NB.length c6) NB) ∧ Hid (∀ g, t.ownBlock = some g → (Value.slice A6 NB.length c6).ownBlock ≠ some g) ∧ Ext W0 wr) (fun _ q _ => a.length - (intOf q).toNat)
  case atStart => exact ⟨0, by omega, rfl, by simpa [Hid] using HO1.out, HO6, (fun g hg hg' => by have := HFAR.out g hg'; simp [Value.ownBlock] at hg; omega), e1⟩
  case round =>
    clear HO1 HO6 e1 HFAR
    obtain ⟨k, hk, rfl, ho, hn6, hfar, he⟩ := hrel
    by_cases hlt : k < a.length
    · obtain ⟨ba, off, Ab, cb, An, cn, At, ct, Ak, ck, rfl, hba, _, hR⟩ := ha.at k hlt
      have HY : Hid (hasNm NB a[k].nm = true → ((a.take k).map DRule.nm).filter (hasNm NB) ++ [a[k].nm] = ((a.take (k+1)).map DRule.nm).filter (hasNm NB)) := by
        intro h; rw [List.take_succ_eq_append_getElem hlt, List.map_append, List.filter_append]; simp [h]
      have HN : Hid (hasNm NB a[k].nm = false → ((a.take k).map DRule.nm).filter (hasNm NB) = ((a.take (k+1)).map DRule.nm).filter (hasNm NB)) := by
        intro h; rw [List.take_succ_eq_append_getElem hlt, List.map_append, List.filter_append]; simp [h]
      have hsl : (((a.take k).map DRule.nm).filter (hasNm NB)).length ≤ k := by
        have h1 := List.length_filter_le (hasNm NB) ((a.take k).map DRule.nm); rw [List.length_map, List.length_take] at h1; omega
      have HB : Hid (((((a.take k).map DRule.nm).filter (hasNm NB)).length + [a[k].nm].length) * 16 ≤ 140737488355328) := by show _ ≤ _; simp only [List.length_cons, List.length_nil]; omega
      generalize ((a.take k).map DRule.nm).filter (hasNm NB) = L at *
      obtain ⟨L', hL''⟩ : ∃ L', ((a.take (k+1)).map DRule.nm).filter (hasNm NB) = L' := ⟨_, rfl⟩
      rw [hL''] at HY HN
      have HLL := Lib.hid hL''; clear hL''
      generalize a[k] = p at *
      obtain ⟨m0, m1, m2, m3, m4, m5, m6, m7⟩ := hR.ext eb
      clear ha hR hsl
      have ex := Ext_alloc (.cells #[.string p.nm, .int .i64 p.kind, .int .i64 p.size, .bool p.little, .slice Ab p.bytes.length cb, .slice An p.names.length cn, .slice At p.tags.length ct, .slice Ak p.kids.length ck] 68) (Ext.refl wr)
      obtain ⟨_, _, hv6, r6⟩ := OwnL.rd hn6.out hbn
      injection hv6 with q1 _ q2
      subst q1; subst q2
      have C := Lib.hid (iContains_c A6 NB c6 p.nm _ (r6.1.ext ex))
      have HN6 := Lib.hid (hn6.out.ext ex)
      have HO := Lib.hid (ho.out.ext ex)
      have e1 := he.trans ex
      have BP := fun w' (e : Ext (wr.alloc (.cells #[.string p.nm, .int .i64 p.kind, .int .i64 p.size, .bool p.little, .slice Ab p.bytes.length cb, .slice An p.names.length cn, .slice At p.tags.length ct, .slice Ak p.kids.length ck] 68)) w') => boxed e
      clear r6 hn6 ho
      generalize hasNm NB p.nm = z at *
      cases z
      · have HE := Lib.hid (HN.out rfl); clear HY HN
        go_wp2_with fail
        refine C.out.mono ?_; rintro _ w2 ⟨rfl, s2⟩
        have ho1 := HO.out.ext s2
        rw [HE.out, ← HLL.out] at ho1
        have H1 := Lib.hid ho1; have H2 := Lib.hid (HN6.out.ext s2)
        clear ho1 HO HN6
        go_wp2
        go_roundw
        case rel => exact ⟨k+1, by omega, by go_num, H1, H2, hfar, e1.trans s2⟩
        case measure => simp [intOf]; omega
      · have HE := Lib.hid (HY.out rfl); clear HY HN
        go_wp2_with fail
        refine C.out.mono ?_; rintro _ w2 ⟨rfl, s2⟩
        have HO2 := Lib.hid (HO.out.ext s2); have HN2 := Lib.hid (HN6.out.ext s2)
        have e2 := e1.trans s2
        clear HO HN6
        go_wp2_with (first
          | (at_builtin; go_must (refine wpList_appNB rfl (.tmp 23) (.tmp 26) _ rfl E_str (by omega) W0 _ vstr (fun _ => rfl) _ rfl _ _ _ rfl (by simp) L [p.nm] _ rfl HO2.out e2 rfl HB.out ?_); intro v1 w3 ho1 he1 hv1 hg1; rw [HE.out, ← HLL.out] at ho1))
        have H1 := Lib.hid ho1
        have H2 : Hid (OwnL vstr 9 W0 w3 (.slice A6 NB.length c6) NB) := by
          refine OwnL.keep (HN2.out.ext (Ext_alloc _ (Ext.refl _))) hg1 ?_
          intro g hg hg'
          exact hfar.out g hg' hg
        have H3 : Hid (∀ g, v1.ownBlock = some g → (Value.slice A6 NB.length c6).ownBlock ≠ some g) := by
          intro g hg hg'
          rcases hv1 with hv1 | hv1
          · rw [hv1] at hg; exact hfar.out g hg hg'
          · rw [hv1] at hg; injection hg with hg; subst hg
            have h5 := (World.ownsRow.lt HN2.out _ hg').2
            simp at h5; omega
        clear ho1 hv1 hg1
        go_roundw
        case rel => exact ⟨k+1, by omega, by go_num, H1, H2, H3, he1⟩
        case measure => simp [intOf]; omega
    · have HE : Hid (((a.take k).map DRule.nm).filter (hasNm NB) = (nmsOf a).filter (hasNm NB)) := by show _ = _; unfold nmsOf; rw [List.take_of_length_le (by omega)]
      go_wp2
      go_ret
      refine ⟨_, rfl, ?_, eb.trans he⟩
      unfold shared
      rw [HNB.out, ← HE.out]; exact ho.out.down eb.size
end Go.Proofs.Ythkaminpfacbpaa
