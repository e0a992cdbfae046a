/- Names of rules: FindRule, DescriptionNames, SharedNames. -/
import Derived.Test.YtalnekcmfagjoaaValid1
import Derived.Test.YtalnekcmfagjoaaDescTo
namespace Go.Proofs.Ytalnekcmfagjoaa
open Go.RowKit Go.Sort

/-- the first rule with this name, or -1 -/
def findR (ds : List DRule) (s : ByteArray) : Int := match ds.findIdx? (fun r => r.nm.toList == s.toList) with | some i => (i : Int) | none => -1
def nmsOf (ds : List DRule) : List ByteArray := ds.map DRule.nm
theorem findR_at {ds : List DRule} {s : ByteArray} {k : Nat} (hk : k < ds.length) (h : (ds[k].nm.toList == s.toList) = true) (hn : ∀ j (hj : j < ds.length), j < k → (ds[j].nm.toList == s.toList) = false) : findR ds s = (k : Int) := by
  unfold findR
  have : ds.findIdx? (fun r => r.nm.toList == s.toList) = some k := by
    rw [List.findIdx?_eq_some_iff_getElem]
    exact ⟨hk, h, fun j hj => by rw [hn j (by omega) hj]; simp⟩
  rw [this]
theorem findR_none {ds : List DRule} {s : ByteArray} (hn : ∀ j (hj : j < ds.length), (ds[j].nm.toList == s.toList) = false) : findR ds s = -1 := by
  unfold findR
  have : ds.findIdx? (fun r => r.nm.toList == s.toList) = none := by
    rw [List.findIdx?_eq_none_iff]
    intro x hx
    obtain ⟨j, hj, rfl⟩ := List.getElem_of_mem hx
    exact hn j hj
  rw [this]
theorem findR_has (ds : List DRule) (s : ByteArray) : decide (0 ≤ findR ds s) = hasNm (nmsOf ds) s := by
  unfold findR hasNm nmsOf
  cases h : ds.findIdx? (fun r => r.nm.toList == s.toList) with
  | none =>
    rw [List.findIdx?_eq_none_iff] at h
    have : (ds.map DRule.nm).any (fun x => x.toList == s.toList) = false := by
      rw [List.any_map, List.any_eq_false]
      intro x hx
      have := h x hx
      simp only [Function.comp_apply]
      rw [this]; simp
    rw [this]; simp
  | some i =>
    rw [List.findIdx?_eq_some_iff_getElem] at h
    obtain ⟨hi, h1, _⟩ := h
    have : (ds.map DRule.nm).any (fun x => x.toList == s.toList) = true := by
      rw [List.any_map, List.any_eq_true]
      exact ⟨ds[i], List.getElem_mem hi, h1⟩
    rw [this]; simp
theorem findR_lt (ds : List DRule) (s : ByteArray) : -1 ≤ findR ds s ∧ findR ds s < ds.length ∨ findR ds s = -1 := by
  unfold findR
  cases h : ds.findIdx? (fun r => r.nm.toList == s.toList) with
  | none => exact .inr rfl
  | some i =>
    rw [List.findIdx?_eq_some_iff_getElem] at h
    obtain ⟨hi, _, _⟩ := h
    left; simp only; omega
set_option maxRecDepth 100000 in
set_option maxHeartbeats 2000000 in
theorem sFind_c (A : Option Addr) (ds : List DRule) (c : Nat) (s : ByteArray) (w : World) (hd : RdD w A ds c) :
    Gives Try.prog 32 #[vdesc (.slice A ds.length c), .string s] w (.int .i64 (findR ds s)) := by
  have hl := hd.len
  have eb := Ext_alloc (.cells #[.slice A ds.length c] 28) (Ext.refl w)
  have BX := fun w' (e : Ext (w.alloc (.cells #[.slice A ds.length c] 28)) w') => boxed e
  unfold vdesc
  go_enter Try.func32, Try.ntmps32
  go_wp2
  go_loopw [5] (fun q wr => ∃ k : Nat, k ≤ ds.length ∧ q = .int .i64 k ∧ Hid (∀ j (hj : j < ds.length), j < k → (ds[j].nm.toList == s.toList) = false) ∧ Ext (w.alloc (.cells #[.slice A ds.length c] 28)) wr) (fun q _ => ds.length - (intOf q).toNat)
  case atStart => exact ⟨0, by omega, rfl, (fun j _ hj => by omega), Ext.refl _⟩
  case round =>
    obtain ⟨k, hk, rfl, ht, he⟩ := hrel
    by_cases hlt : k < ds.length
    · obtain ⟨b, off, Ab, cb, An, cn, At, ct, Ak, ck, rfl, hb, _, hR⟩ := hd.at k hlt
      have YES : Hid ((ds[k].nm.toList == s.toList) = true → findR ds s = (k : Int)) := fun h => findR_at hlt h ht.out
      have NO : Hid ((ds[k].nm.toList == s.toList) = false → ∀ j (hj : j < ds.length), j < k + 1 → (ds[j].nm.toList == s.toList) = false) := by
        intro hy j hj hjk
        rcases (by omega : j < k ∨ j = k) with hjk | rfl
        · exact ht.out j hj hjk
        · exact hy
      generalize ds[k] = p at *
      obtain ⟨m0, m1, m2, m3, m4, m5, m6, m7⟩ := hR.ext eb
      clear hd hR ht
      cases hq : (p.nm.toList == s.toList)
      · have HE := Lib.hid (NO.out hq); clear YES NO
        go_wp2
        go_roundw
        case rel => exact ⟨k+1, by omega, by go_num, HE.out, he⟩
        case measure => simp [intOf]; omega
      · have HE := Lib.hid (YES.out hq); clear YES NO
        go_wp2
        go_ret
        exact ⟨ret_i64 HE.out.symm, eb.trans he⟩
    · have HE : Hid (findR ds s = -1) := findR_none (fun j hj => ht.out j hj (by omega))
      go_wp2
      go_ret
      exact ⟨ret_i64 HE.out.symm, eb.trans he⟩

set_option maxRecDepth 100000 in
set_option maxHeartbeats 2000000 in
theorem iFind_c (A : Option Addr) (ds : List DRule) (c : Nat) (s : ByteArray) (w : World) (hd : RdD w A ds c) :
    Gives Try.prog 36 #[vdesc (.slice A ds.length c), .string s] w (.int .i64 (findR ds s)) := by
  have hl := hd.len
  have eb := Ext_alloc (.cells #[.slice A ds.length c] 28) (Ext.refl w)
  have BX := fun w' (e : Ext (w.alloc (.cells #[.slice A ds.length c] 28)) w') => boxed e
  unfold vdesc
  go_enter Try.func36, Try.ntmps36
  go_wp2
  go_loopw [10] (fun q wr => ∃ k : Nat, k ≤ ds.length ∧ q = .int .i64 k ∧ Hid (∀ j (hj : j < ds.length), j < k → (ds[j].nm.toList == s.toList) = false) ∧ Ext (w.alloc (.cells #[.slice A ds.length c] 28)) wr) (fun q _ => ds.length - (intOf q).toNat)
  case atStart => exact ⟨0, by omega, rfl, (fun j _ hj => by omega), Ext.refl _⟩
  case round =>
    obtain ⟨k, hk, rfl, ht, he⟩ := hrel
    by_cases hlt : k < ds.length
    · obtain ⟨b, off, Ab, cb, An, cn, At, ct, Ak, ck, rfl, hb, _, hR⟩ := hd.at k hlt
      have YES : Hid ((ds[k].nm.toList == s.toList) = true → findR ds s = (k : Int)) := fun h => findR_at hlt h ht.out
      have NO : Hid ((ds[k].nm.toList == s.toList) = false → ∀ j (hj : j < ds.length), j < k + 1 → (ds[j].nm.toList == s.toList) = false) := by
        intro hy j hj hjk
        rcases (by omega : j < k ∨ j = k) with hjk | rfl
        · exact ht.out j hj hjk
        · exact hy
      generalize ds[k] = p at *
      obtain ⟨m0, m1, m2, m3, m4, m5, m6, m7⟩ := hR.ext eb
      clear hd hR ht
      cases hq : (p.nm.toList == s.toList)
      · have HE := Lib.hid (NO.out hq); clear YES NO
        go_wp2
        go_roundw
        case rel => exact ⟨k+1, by omega, by go_num, HE.out, (Ext_alloc _ he)⟩
        case measure => simp [intOf]; omega
      · have HE := Lib.hid (YES.out hq); clear YES NO
        go_wp2
        go_ret
        exact ⟨ret_i64 HE.out.symm, eb.trans (Ext_alloc _ he)⟩
    · have HE : Hid (findR ds s = -1) := findR_none (fun j hj => ht.out j hj (by omega))
      go_wp2
      go_ret
      exact ⟨ret_i64 HE.out.symm, eb.trans he⟩
section
variable {P : Program} {ops : Array Oper} {rest : List Oper} {o : Oper} {a : Act} {Q : Exit → Act → World → Prop}
/-- append(s, y1, .., ym), with what becomes of the block -/
theorem wpList_appNB (hgd : o.guard = none) (s x : Operand) (t : TypeId) (ho : o.op = .call { callee := .builtin .append, args := #[s, x], argTypes := #[t, t] })
    {e : TypeId} {bytes : Nat} {z : Value} (hE : Elem P t e 1 bytes z) (hby : 1 ≤ bytes) (w0 w : World) {α : Type} (f : α → Value) (hf : ∀ x, (f x).oneCell' = true) (v : Value) (hs : a.eval s = v) (m c g : Nat) (hx : a.eval x = .slice (some ⟨g, 0, none⟩) m c) (hg : g = w.heap.size)
    (l ys : List α) (cs : Array Value) (hcs : cs = (ys.map f).toArray) (hown : OwnL f e w0 w v l) (he : Ext w0 w) (hm : m = ys.length)
    (hb : (l.length + ys.length) * bytes ≤ 140737488355328)
    (h : ∀ v' w', OwnL f e w0 w' v' (l ++ ys) → Ext w0 w' → (v'.ownBlock = v.ownBlock ∨ v'.ownBlock = some (w.alloc (.cells cs e)).heap.size) → (w.alloc (.cells cs e)).grownBy w' v.ownBlock → wpList P ops Q rest (a.put o.dst v') w') :
    wpList P ops Q (o :: rest) a (w.alloc (.cells cs e)) := by
  subst hcs; subst hg
  refine wpList_appL hgd s x t ho hE hby w0 _ f hf v hs (some ⟨w.heap.size, 0, none⟩) m c hx l ys (hown.ext (Ext_alloc _ (Ext.refl w))) (Ext_alloc _ he) hm (fun _ => ⟨_, rfl, fun j u hu => ?_⟩) hb h
  rw [World.cell?_alloc_at']; exact hu
end
theorem take_snoc' {α β : Type} (f : α → β) (l : List α) (k : Nat) (hk : k < l.length) : (l.take k).map f ++ [f l[k]] = (l.take (k+1)).map f := by
  rw [List.take_succ_eq_append_getElem hk, List.map_append]; rfl
/-- the names that both have, in the first one's order -/
def shared (a b : List DRule) : List ByteArray := (nmsOf a).filter (hasNm (nmsOf b))
def shr (a b : List DRule) (k : Nat) : List ByteArray := ((a.take k).map DRule.nm).filter (hasNm (nmsOf b))
theorem shr_yes {a b : List DRule} {k : Nat} (hk : k < a.length) (h : hasNm (nmsOf b) a[k].nm = true) : shr a b k ++ [a[k].nm] = shr a b (k+1) := by
  unfold shr; rw [List.take_succ_eq_append_getElem hk, List.map_append, List.filter_append]; simp [h]
theorem shr_no {a b : List DRule} {k : Nat} (hk : k < a.length) (h : hasNm (nmsOf b) a[k].nm = false) : shr a b k = shr a b (k+1) := by
  unfold shr; rw [List.take_succ_eq_append_getElem hk, List.map_append, List.filter_append]; simp [h]
theorem shr_len (a b : List DRule) (k : Nat) : (shr a b k).length ≤ k := by
  unfold shr; have h1 := List.length_filter_le (hasNm (nmsOf b)) ((a.take k).map DRule.nm); rw [List.length_map, List.length_take] at h1; omega
theorem shared_len {a b : List DRule} {n : Nat} (h : szD a ≤ n) : (shared a b).length ≤ n := by
  unfold shared; have h1 := List.length_filter_le (hasNm (nmsOf b)) (nmsOf a); unfold nmsOf at h1 ⊢; rw [List.length_map] at h1; unfold szD at h; omega
end Go.Proofs.Ytalnekcmfagjoaa
