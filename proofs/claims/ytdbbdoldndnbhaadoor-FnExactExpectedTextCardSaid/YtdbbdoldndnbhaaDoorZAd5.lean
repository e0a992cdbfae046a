/- Names of rules: FindRule, DescriptionNames, SharedNames. -/
import Derived.Test.YtdbbdoldndnbhaaDoorZAd4
import Derived.Shelf.Strings.OnBuilder
import Derived.Shelf.LaysM
import Derived.Shelf.Strconv.Itoa3
import Derived.Test.YtdbbdoldndnbhaaDoorProg
import Derived.Lib.LaidTab
import Derived.Lib.ItoaNum
import Derived.Lib.AppendIntMem
namespace Go.Proofs.YtdbbdoldndnbhaaDoor
open Go.RowKit Go.Sort

/-- the first rule with this name, or -1 -/
def findR (ds : List DRule) (s : ByteArray) : Int := match ds.findIdx? (fun r => r.nm.toList == s.toList) with | some i => (i : Int) | none => -1
def nmsOf (ds : List DRule) : List ByteArray := ds.map DRule.nm
theorem findR_at {ds : List DRule} {s : ByteArray} {k : Nat} (hk : k < ds.length) (h : (ds[k].nm.toList == s.toList) = true) (hn : ∀ j (hj : j < ds.length), j < k → (ds[j].nm.toList == s.toList) = false) : findR ds s = (k : Int) := by
  unfold findR
  have : ds.findIdx? (fun r => r.nm.toList == s.toList) = some k := by
    rw [List.findIdx?_eq_some_iff_getElem]
    exact ⟨hk, h, fun j hj => by rw [hn j (by omega) hj]; simp⟩
  rw [this]
theorem findR_none {ds : List DRule} {s : ByteArray} (hn : ∀ j (hj : j < ds.length), (ds[j].nm.toList == s.toList) = false) : findR ds s = -1 := by
  unfold findR
  have : ds.findIdx? (fun r => r.nm.toList == s.toList) = none := by
    rw [List.findIdx?_eq_none_iff]
    intro x hx
    obtain ⟨j, hj, rfl⟩ := List.getElem_of_mem hx
    exact hn j hj
  rw [this]
theorem findR_has (ds : List DRule) (s : ByteArray) : decide (0 ≤ findR ds s) = hasNm (nmsOf ds) s := by
  unfold findR hasNm nmsOf
  cases h : ds.findIdx? (fun r => r.nm.toList == s.toList) with
  | none =>
    rw [List.findIdx?_eq_none_iff] at h
    have : (ds.map DRule.nm).any (fun x => x.toList == s.toList) = false := by
      rw [List.any_map, List.any_eq_false]
      intro x hx
      have := h x hx
      simp only [Function.comp_apply]
      rw [this]; simp
    rw [this]; simp
  | some i =>
    rw [List.findIdx?_eq_some_iff_getElem] at h
    obtain ⟨hi, h1, _⟩ := h
    have : (ds.map DRule.nm).any (fun x => x.toList == s.toList) = true := by
      rw [List.any_map, List.any_eq_true]
      exact ⟨ds[i], List.getElem_mem hi, h1⟩
    rw [this]; simp
theorem findR_lt (ds : List DRule) (s : ByteArray) : -1 ≤ findR ds s ∧ findR ds s < ds.length ∨ findR ds s = -1 := by
  unfold findR
  cases h : ds.findIdx? (fun r => r.nm.toList == s.toList) with
  | none => exact .inr rfl
  | some i =>
    rw [List.findIdx?_eq_some_iff_getElem] at h
    obtain ⟨hi, _, _⟩ := h
    left; simp only; omega
set_option maxRecDepth 100000 in
set_option maxHeartbeats 2000000 in
theorem sFind_c (A : Option Addr) (ds : List DRule) (c : Nat) (s : ByteArray) (w : World) (hd : RdD w A ds c) :
    Gives Tryd.prog 43 #[vdesc (.slice A ds.length c), .string s] w (.int .i64 (findR ds s)) := by
  have hl := hd.len
  have eb := Ext_alloc (.cells #[.slice A ds.length c] 30) (Ext.refl w)
  have BX := fun w' (e : Ext (w.alloc (.cells #[.slice A ds.length c] 30)) w') => boxed e
  unfold vdesc
  go_enter Tryd.func43, Tryd.ntmps43
  go_wp2
  go_loopw [5] (fun q wr => ∃ k : Nat, k ≤ ds.length ∧ q = .int .i64 k ∧ Hid (∀ j (hj : j < ds.length), j < k → (ds[j].nm.toList == s.toList) = false) ∧ Ext (w.alloc (.cells #[.slice A ds.length c] 30)) wr) (fun q _ => ds.length - (intOf q).toNat)
  case atStart => exact ⟨0, by omega, rfl, (fun j _ hj => by omega), Ext.refl _⟩
  case round =>
    obtain ⟨k, hk, rfl, ht, he⟩ := hrel
    by_cases hlt : k < ds.length
    · obtain ⟨b, off, Ab, cb, An, cn, At, ct, Ak, ck, rfl, hb, _, hR⟩ := hd.at k hlt
      have YES : Hid ((ds[k].nm.toList == s.toList) = true → findR ds s = (k : Int)) := fun h => findR_at hlt h ht.out
      have NO : Hid ((ds[k].nm.toList == s.toList) = false → ∀ j (hj : j < ds.length), j < k + 1 → (ds[j].nm.toList == s.toList) = false) := by
        intro hy j hj hjk
        rcases (by omega : j < k ∨ j = k) with hjk | rfl
        · exact ht.out j hj hjk
        · exact hy
      generalize ds[k] = p at *
      obtain ⟨m0, m1, m2, m3, m4, m5, m6, m7⟩ := hR.ext eb
      clear hd hR ht
      cases hq : (p.nm.toList == s.toList)
      · have HE := Lib.hid (NO.out hq); clear YES NO
        go_wp2
        go_roundw
        case rel => exact ⟨k+1, by omega, by go_num, HE.out, he⟩
        case measure => simp [intOf]; omega
      · have HE := Lib.hid (YES.out hq); clear YES NO
        go_wp2
        go_ret
        exact ⟨ret_i64 HE.out.symm, eb.trans he⟩
    · have HE : Hid (findR ds s = -1) := findR_none (fun j hj => ht.out j hj (by omega))
      go_wp2
      go_ret
      exact ⟨ret_i64 HE.out.symm, eb.trans he⟩

set_option maxRecDepth 100000 in
set_option maxHeartbeats 2000000 in
theorem iFind_c (A : Option Addr) (ds : List DRule) (c : Nat) (s : ByteArray) (w : World) (hd : RdD w A ds c) :
    Gives Tryd.prog 48 #[vdesc (.slice A ds.length c), .string s] w (.int .i64 (findR ds s)) := by
  have hl := hd.len
  have eb := Ext_alloc (.cells #[.slice A ds.length c] 30) (Ext.refl w)
  have BX := fun w' (e : Ext (w.alloc (.cells #[.slice A ds.length c] 30)) w') => boxed e
  unfold vdesc
  go_enter Tryd.func48, Tryd.ntmps48
  go_wp2
  go_loopw [10] (fun q wr => ∃ k : Nat, k ≤ ds.length ∧ q = .int .i64 k ∧ Hid (∀ j (hj : j < ds.length), j < k → (ds[j].nm.toList == s.toList) = false) ∧ Ext (w.alloc (.cells #[.slice A ds.length c] 30)) wr) (fun q _ => ds.length - (intOf q).toNat)
  case atStart => exact ⟨0, by omega, rfl, (fun j _ hj => by omega), Ext.refl _⟩
  case round =>
    obtain ⟨k, hk, rfl, ht, he⟩ := hrel
    by_cases hlt : k < ds.length
    · obtain ⟨b, off, Ab, cb, An, cn, At, ct, Ak, ck, rfl, hb, _, hR⟩ := hd.at k hlt
      have YES : Hid ((ds[k].nm.toList == s.toList) = true → findR ds s = (k : Int)) := fun h => findR_at hlt h ht.out
      have NO : Hid ((ds[k].nm.toList == s.toList) = false → ∀ j (hj : j < ds.length), j < k + 1 → (ds[j].nm.toList == s.toList) = false) := by
        intro hy j hj hjk
        rcases (by omega : j < k ∨ j = k) with hjk | rfl
        · exact ht.out j hj hjk
        · exact hy
      generalize ds[k] = p at *
      obtain ⟨m0, m1, m2, m3, m4, m5, m6, m7⟩ := hR.ext eb
      clear hd hR ht
      cases hq : (p.nm.toList == s.toList)
      · have HE := Lib.hid (NO.out hq); clear YES NO
        go_wp2
        go_roundw
        case rel => exact ⟨k+1, by omega, by go_num, HE.out, (Ext_alloc _ he)⟩
        case measure => simp [intOf]; omega
      · have HE := Lib.hid (YES.out hq); clear YES NO
        go_wp2
        go_ret
        exact ⟨ret_i64 HE.out.symm, eb.trans (Ext_alloc _ he)⟩
    · have HE : Hid (findR ds s = -1) := findR_none (fun j hj => ht.out j hj (by omega))
      go_wp2
      go_ret
      exact ⟨ret_i64 HE.out.symm, eb.trans he⟩
section
variable {P : Program} {ops : Array Oper} {rest : List Oper} {o : Oper} {a : Act} {Q : Exit → Act → World → Prop}
/-- append(s, y1, .., ym), with what becomes of the block -/
theorem wpList_appNB (hgd : o.guard = none) (s x : Operand) (t : TypeId) (ho : o.op = .call { callee := .builtin .append, args := #[s, x], argTypes := #[t, t] })
    {e : TypeId} {bytes : Nat} {z : Value} (hE : Elem P t e 1 bytes z) (hby : 1 ≤ bytes) (w0 w : World) {α : Type} (f : α → Value) (hf : ∀ x, (f x).oneCell' = true) (v : Value) (hs : a.eval s = v) (m c g : Nat) (hx : a.eval x = .slice (some ⟨g, 0, none⟩) m c) (hg : g = w.heap.size)
    (l ys : List α) (cs : Array Value) (hcs : cs = (ys.map f).toArray) (hown : OwnL f e w0 w v l) (he : Ext w0 w) (hm : m = ys.length)
    (hb : (l.length + ys.length) * bytes ≤ 140737488355328)
    (h : ∀ v' w', OwnL f e w0 w' v' (l ++ ys) → Ext w0 w' → (v'.ownBlock = v.ownBlock ∨ v'.ownBlock = some (w.alloc (.cells cs e)).heap.size) → (w.alloc (.cells cs e)).grownBy w' v.ownBlock → wpList P ops Q rest (a.put o.dst v') w') :
    wpList P ops Q (o :: rest) a (w.alloc (.cells cs e)) := by
  subst hcs; subst hg
  refine wpList_appL hgd s x t ho hE hby w0 _ f hf v hs (some ⟨w.heap.size, 0, none⟩) m c hx l ys (hown.ext (Ext_alloc _ (Ext.refl w))) (Ext_alloc _ he) hm (fun _ => ⟨_, rfl, fun j u hu => ?_⟩) hb h
  rw [World.cell?_alloc_at']; exact hu
end
theorem take_snoc' {α β : Type} (f : α → β) (l : List α) (k : Nat) (hk : k < l.length) : (l.take k).map f ++ [f l[k]] = (l.take (k+1)).map f := by
  rw [List.take_succ_eq_append_getElem hk, List.map_append]; rfl
/-- the names that both have, in the first one's order -/
def shared (a b : List DRule) : List ByteArray := (nmsOf a).filter (hasNm (nmsOf b))
def shr (a b : List DRule) (k : Nat) : List ByteArray := ((a.take k).map DRule.nm).filter (hasNm (nmsOf b))
theorem shr_yes {a b : List DRule} {k : Nat} (hk : k < a.length) (h : hasNm (nmsOf b) a[k].nm = true) : shr a b k ++ [a[k].nm] = shr a b (k+1) := by
  unfold shr; rw [List.take_succ_eq_append_getElem hk, List.map_append, List.filter_append]; simp [h]
theorem shr_no {a b : List DRule} {k : Nat} (hk : k < a.length) (h : hasNm (nmsOf b) a[k].nm = false) : shr a b k = shr a b (k+1) := by
  unfold shr; rw [List.take_succ_eq_append_getElem hk, List.map_append, List.filter_append]; simp [h]
theorem shr_len (a b : List DRule) (k : Nat) : (shr a b k).length ≤ k := by
  unfold shr; have h1 := List.length_filter_le (hasNm (nmsOf b)) ((a.take k).map DRule.nm); rw [List.length_map, List.length_take] at h1; omega
theorem shared_len {a b : List DRule} {n : Nat} (h : szD a ≤ n) : (shared a b).length ≤ n := by
  unfold shared; have h1 := List.length_filter_le (hasNm (nmsOf b)) (nmsOf a); unfold nmsOf at h1 ⊢; rw [List.length_map] at h1; unfold szD at h; omega
end Go.Proofs.YtdbbdoldndnbhaaDoor

/- Which rules can have an entry, as plain functions. -/
namespace Go.Proofs.YtdbbdoldndnbhaaDoor

/-- the kids that count: without the first one at kinds 4, 5 and 7 -/
def kidsOf (r : DRule) : List Int := if r.kind = 4 ∨ r.kind = 5 ∨ r.kind = 7 then r.kids.drop 1 else r.kids
def setAll (c : List Bool) (l : List Int) : List Bool := l.foldl (fun c k => c.set k.toNat true) c
/-- rule number i hands on that it can have an entry -/
def possAt (ds : List DRule) (c : List Bool) (i : Nat) : List Bool := if c.getD i false then setAll c (kidsOf (ds.getD i ⟨⟨#[]⟩, 0, 0, false, [], [], [], []⟩)) else c
/-- from rule number i - 1 down -/
def possFrom (ds : List DRule) : Nat → List Bool → List Bool
  | 0, c => c
  | i + 1, c => possFrom ds i (possAt ds c i)
def possible (ds : List DRule) : List Bool := possFrom ds ds.length ((List.replicate ds.length false).set (ds.length - 1) true)
theorem setAll_len (c : List Bool) (l : List Int) : (setAll c l).length = c.length := by
  unfold setAll
  induction l generalizing c with
  | nil => rfl
  | cons a t ih => rw [List.foldl_cons, ih]; simp
theorem setAll_append (c : List Bool) (a b : List Int) : setAll c (a ++ b) = setAll (setAll c a) b := by unfold setAll; rw [List.foldl_append]
theorem possAt_len (ds : List DRule) (c : List Bool) (i : Nat) : (possAt ds c i).length = c.length := by
  unfold possAt; split
  · exact setAll_len _ _
  · rfl
theorem possFrom_len (ds : List DRule) (i : Nat) (c : List Bool) : (possFrom ds i c).length = c.length := by
  induction i generalizing c with
  | zero => rfl
  | succ i ih => rw [possFrom, ih, possAt_len]
theorem possible_len (ds : List DRule) : (possible ds).length = ds.length := by unfold possible; rw [possFrom_len]; simp
/-- a padding behind the list does not matter, while the kids lie within -/
theorem set_pad (c p : List Bool) (k : Nat) (h : k < c.length) : (c ++ p).set k true = c.set k true ++ p := by rw [List.set_append_left _ _ h]
theorem setAll_pad (c p : List Bool) (l : List Int) (h : ∀ k ∈ l, 0 ≤ k ∧ k < c.length) : setAll (c ++ p) l = setAll c l ++ p := by
  unfold setAll
  induction l generalizing c with
  | nil => rfl
  | cons a t ih =>
    have ha := h a (by simp)
    rw [List.foldl_cons, List.foldl_cons, set_pad c p _ (by omega)]
    exact ih _ (fun k hk => by have := h k (by simp [hk]); simpa using this)
/-- the rules that can have an entry -/
def entries (ds : List DRule) : List Nat := (List.range ds.length).filter fun i => (possible ds).getD i false
def entriesUpTo (c : List Bool) (n : Nat) : List Nat := (List.range n).filter fun i => c.getD i false
theorem entries_eq (ds : List DRule) : entries ds = entriesUpTo (possible ds) ds.length := rfl
theorem entriesUpTo_succ (c : List Bool) (n : Nat) : entriesUpTo c (n + 1) = if c.getD n false then entriesUpTo c n ++ [n] else entriesUpTo c n := by
  unfold entriesUpTo
  rw [List.range_succ, List.filter_append]
  by_cases h : c.getD n false
  · rw [if_pos h]; simp only [List.filter_cons, h, if_true, List.filter_nil]
  · rw [if_neg h]; simp only [List.filter_cons, h, List.filter_nil]; simp
/-- what a coverage says of an index -/
def covered (ds : List DRule) (cov : List Int) : Nat := ((entries ds).filter fun i => decide (0 < at0 cov i)).length
def percent (ds : List DRule) (cov : List Int) : Int := if descOk ds then (100 * covered ds cov : Nat) / (entries ds).length else 0
def uncovered (ds : List DRule) (cov : List Int) : List ByteArray := if descOk ds then ((entries ds).filter fun i => at0 cov i == 0).map (fun i => (ds.getD i ⟨⟨#[]⟩, 0, 0, false, [], [], [], []⟩).nm) else []
end Go.Proofs.YtdbbdoldndnbhaaDoor

/- Which rules can have an entry: facts of a valid description, the kids that count, RootOf. -/
namespace Go.Proofs.YtdbbdoldndnbhaaDoor
open Go.RowKit Go.Sort

theorem allN_at {n k : Nat} {f : Nat → Bool} (h : allN n f = true) (hk : k < n) : f k = true := by
  cases h1 : f k
  · rw [allN_no hk h1] at h; cases h
  · rfl
theorem descOk_len {ds : List DRule} (h : descOk ds = true) : 0 < ds.length ∧ ds.length ≤ 24 := by
  unfold descOk between at h; simp at h; omega
theorem descOk_kid {ds : List DRule} (h : descOk ds = true) (i : Nat) (hi : i < ds.length) (j : Nat) (hj : j < ds[i].kids.length) : 0 ≤ ds[i].kids[j] ∧ ds[i].kids[j] < i := by
  unfold descOk at h
  rw [Bool.and_eq_true] at h
  have h1 := allN_at h.2 hi
  unfold ruleOk at h1
  rw [List.getElem?_eq_getElem hi] at h1
  simp only [Bool.and_eq_true] at h1
  have h2 := allN_at h1.1.2 hj
  unfold kidOk at h2
  rw [List.getElem?_eq_getElem hj] at h2
  unfold between at h2; simp at h2; omega
/-- the kids that count among the first k -/
def selK (r : DRule) (k : Nat) : List Int := if r.kind = 4 ∨ r.kind = 5 ∨ r.kind = 7 then (r.kids.take k).drop 1 else r.kids.take k
theorem selK_all (r : DRule) : selK r r.kids.length = kidsOf r := by unfold selK kidsOf; rw [List.take_length]
theorem selK_zero (r : DRule) : selK r 0 = [] := by unfold selK; simp
theorem selK_step (r : DRule) (k : Nat) (hk : k < r.kids.length) (h : 0 < k ∨ ¬ (r.kind = 4 ∨ r.kind = 5 ∨ r.kind = 7)) : selK r (k+1) = selK r k ++ [r.kids[k]] := by
  unfold selK
  rw [List.take_succ_eq_append_getElem hk]
  split
  · rename_i h1
    rw [List.drop_append_of_le_length (by rw [List.length_take]; rcases h with h | h; omega; exact absurd h1 h)]
  · rfl
theorem selK_skip (r : DRule) (h : r.kind = 4 ∨ r.kind = 5 ∨ r.kind = 7) : selK r 1 = selK r 0 := by
  unfold selK; rw [if_pos h, if_pos h, List.drop_eq_nil_of_le (by rw [List.length_take]; omega)]; simp
theorem setAll_snoc (c : List Bool) (l : List Int) (k : Int) : setAll c (l ++ [k]) = (setAll c l).set k.toNat true := by unfold setAll; rw [List.foldl_append]; rfl
theorem setAll_true (c : List Bool) (l : List Int) (i : Nat) (h : c[i]? = some true) : (setAll c l)[i]? = some true := by
  unfold setAll
  induction l generalizing c with
  | nil => exact h
  | cons a t ih =>
    rw [List.foldl_cons]
    refine ih _ ?_
    rw [List.getElem?_set]
    have hlt : i < c.length := by
      rcases Nat.lt_or_ge i c.length with h' | h'
      · exact h'
      · rw [List.getElem?_eq_none h'] at h; cases h
    split
    · simp; omega
    · exact h

end Go.Proofs.YtdbbdoldndnbhaaDoor

/- LostNames of the program and of the reference. -/
namespace Go.Proofs.YtdbbdoldndnbhaaDoor
open Go.RowKit Go.Sort

def knownB (ds : List DRule) (i : Int) : Bool := descOk ds && (decide (0 ≤ i) && decide (i < ds.length))
end Go.Proofs.YtdbbdoldndnbhaaDoor

/- Extension of one description by another one, as a plain function of the rules. -/
namespace Go.Proofs.YtdbbdoldndnbhaaDoor

theorem allN_congr {n : Nat} {f g : Nat → Bool} (h : ∀ k, k < n → f k = g k) : allN n f = allN n g := by
  cases hg : allN n g
  · cases hf : allN n f
    · rfl
    · have : allN n g = true := allN_yes fun j hj => by rw [← h j hj]; exact allN_at hf hj
      rw [hg] at this; cases this
  · exact allN_yes fun j hj => by rw [h j hj]; exact allN_at hg hj
/-- what a valid rule has, by its kind -/
structure RuleFacts (r : DRule) : Prop where
  kind : 1 ≤ r.kind ∧ r.kind ≤ 10
  plain : r.kind = 1 ∨ r.kind = 2 ∨ r.kind = 3 ∨ r.kind = 10 → r.names = [] ∧ r.kids = []
  parts : r.kind = 4 ∨ r.kind = 5 ∨ r.kind = 6 ∨ r.kind = 7 ∨ r.kind = 8 ∨ r.kind = 9 → r.size = 0 ∧ r.little = false ∧ r.bytes = []
  cho : r.kind = 7 → r.kids.length = r.tags.length + 1 ∧ r.names = []
theorem plainB_facts {r : DRule} {s b n t : Bool} {k : Int} (h : plainB r s b n t k = true) : (s = false → r.size = 0) ∧ (b = false → r.bytes = []) ∧ (n = false → r.names = []) ∧ (0 ≤ k → (r.kids.length : Int) = k) := by
  unfold plainB at h
  simp only [Bool.and_eq_true, Bool.or_eq_true, beq_iff_eq, decide_eq_true_eq, List.length_eq_zero_iff] at h
  obtain ⟨⟨⟨⟨h1, h2⟩, h3⟩, h4⟩, h5⟩ := h
  refine ⟨fun e => ?_, fun e => ?_, fun e => ?_, fun e => by omega⟩
  · rw [e] at h1; simpa using h1
  · rw [e] at h2; simpa using h2
  · rw [e] at h3; simpa using h3
theorem ruleKind {ds : List DRule} (h : descOk ds = true) (i : Nat) (hi : i < ds.length) : kindOk ds ds[i] = true := by
  unfold descOk at h
  rw [Bool.and_eq_true] at h
  have h1 := allN_at h.2 hi
  unfold ruleOk at h1
  rw [List.getElem?_eq_getElem hi] at h1
  simp only [Bool.and_eq_true] at h1
  exact h1.2
theorem ruleFacts {ds : List DRule} (h : descOk ds = true) (i : Nat) (hi : i < ds.length) : RuleFacts ds[i] := by
  unfold descOk at h
  rw [Bool.and_eq_true] at h
  have h1 := allN_at h.2 hi
  unfold ruleOk at h1
  rw [List.getElem?_eq_getElem hi] at h1
  simp only [Bool.and_eq_true] at h1
  have hk := h1.2
  have hlit := h1.1.1.1.2
  generalize ds[i] = r at *
  have hl : r.kind ≠ 1 → r.little = false := by
    intro hne
    cases hq : r.little
    · rfl
    · rw [hq] at hlit; simp at hlit; exact absurd hlit hne
  unfold kindOk at hk
  have NO : ∀ {p : Prop} {k k' : Int}, k ≠ k' → r.kind = k → r.kind = k' → p := fun hne e1 e2 => absurd (e1.symm.trans e2) hne
  split at hk
  · rename_i e
    simp only [Bool.and_eq_true] at hk
    have f := plainB_facts hk.1.1
    exact ⟨by omega, fun _ => ⟨f.2.2.1 rfl, by have := f.2.2.2 (by omega); simpa using this⟩, fun h => by omega, fun h => by omega⟩
  split at hk
  · rename_i e
    simp only [Bool.and_eq_true] at hk
    have f := plainB_facts hk.1
    exact ⟨by omega, fun _ => ⟨f.2.2.1 rfl, by have := f.2.2.2 (by omega); simpa using this⟩, fun h => by omega, fun h => by omega⟩
  split at hk
  · rename_i e
    simp only [Bool.and_eq_true] at hk
    have f := plainB_facts hk.1
    exact ⟨by omega, fun _ => ⟨f.2.2.1 rfl, by have := f.2.2.2 (by omega); simpa using this⟩, fun h => by omega, fun h => by omega⟩
  split at hk
  · rename_i e
    simp only [Bool.and_eq_true] at hk
    have f := plainB_facts hk.1
    exact ⟨by omega, fun h => by omega, fun _ => ⟨f.1 rfl, hl (by omega), f.2.1 rfl⟩, fun h => by omega⟩
  split at hk
  · rename_i e
    simp only [Bool.and_eq_true] at hk
    have f := plainB_facts hk.1
    exact ⟨by omega, fun h => by omega, fun _ => ⟨f.1 rfl, hl (by omega), f.2.1 rfl⟩, fun h => by omega⟩
  split at hk
  · rename_i e
    unfold seqOk at hk
    simp only [Bool.and_eq_true] at hk
    have f := plainB_facts hk.1.1.1
    exact ⟨by omega, fun h => by omega, fun _ => ⟨f.1 rfl, hl (by omega), f.2.1 rfl⟩, fun h => by omega⟩
  split at hk
  · rename_i e
    unfold choOk at hk
    simp only [Bool.and_eq_true] at hk
    have f := plainB_facts hk.1.1
    exact ⟨by omega, fun h => by omega, fun _ => ⟨f.1 rfl, hl (by omega), f.2.1 rfl⟩, fun _ => ⟨by have := f.2.2.2 (by omega); omega, f.2.2.1 rfl⟩⟩
  split at hk
  · rename_i e
    have f := plainB_facts hk
    exact ⟨by omega, fun h => by omega, fun _ => ⟨f.1 rfl, hl (by omega), f.2.1 rfl⟩, fun h => by omega⟩
  split at hk
  · rename_i e
    have f := plainB_facts hk
    exact ⟨by omega, fun h => by omega, fun _ => ⟨f.1 rfl, hl (by omega), f.2.1 rfl⟩, fun h => by omega⟩
  split at hk
  · rename_i e
    simp only [Bool.and_eq_true] at hk
    have f := plainB_facts hk.1.1
    exact ⟨by omega, fun _ => ⟨f.2.2.1 rfl, by have := f.2.2.2 (by omega); simpa using this⟩, fun h => by omega, fun h => by omega⟩
  · cases hk

/-- the place of a tag; the length, where there is none -/
def tagN (l : List Int) (t : Int) : Nat := l.findIdx (· == t)
theorem tagN_at {l : List Int} {t : Int} {k : Nat} (hk : k < l.length) (h : l[k] = t) (hn : ∀ j (hj : j < l.length), j < k → l[j] ≠ t) : tagN l t = k := by
  unfold tagN
  rw [List.findIdx_eq hk]
  exact ⟨by simpa using h, fun j hj => by have := hn j (by omega) hj; simpa using this⟩
theorem tagN_none {l : List Int} {t : Int} (hn : ∀ j (hj : j < l.length), l[j] ≠ t) : tagN l t = l.length := by
  unfold tagN
  rw [List.findIdx_eq_length]
  intro x hx
  obtain ⟨k, hk, rfl⟩ := List.getElem_of_mem hx
  simpa using hn k hk
theorem tagN_le (l : List Int) (t : Int) : tagN l t ≤ l.length := List.findIdx_le_length
def kd (r : DRule) (t : Nat) : Nat := (r.kids.getD t 0).toNat
theorem kd_at {r : DRule} {t : Nat} (h : t < r.kids.length) : kd r t = r.kids[t].toNat := by unfold kd; simp [h]
theorem kd_lt {ds : List DRule} (h : descOk ds = true) (i : Nat) (hi : i < ds.length) (t : Nat) (ht : t < ds[i].kids.length) : kd ds[i] t < i := by
  rw [kd_at ht]; have := descOk_kid h i hi t ht; omega
theorem kd_int {ds : List DRule} (h : descOk ds = true) (i : Nat) (hi : i < ds.length) (t : Nat) (ht : t < ds[i].kids.length) : ds[i].kids[t] = (kd ds[i] t : Int) := by
  rw [kd_at ht]; have := descOk_kid h i hi t ht; omega
/-- what two rules say themselves -/
def extHead (x y : DRule) : Bool := x.kind == y.kind && x.size == y.size && x.little == y.little && x.bytes == y.bytes
/-- the alternative with tag number t of x -/
def extTag (e : Nat → Nat → Bool) (x y : DRule) (t : Nat) : Bool := decide (tagN y.tags (x.tags.getD t 0) < y.tags.length) && e (kd x (t + 1)) (kd y (tagN y.tags (x.tags.getD t 0) + 1))
/-- the parts -/
def extTail (e : Nat → Nat → Bool) (x y : DRule) : Bool :=
  if x.kind = 7 then e (kd x 0) (kd y 0) && allN x.tags.length (extTag e x y)
  else eqNms x.names y.names && x.kids.length == y.kids.length && allN x.kids.length (fun t => e (kd x t) (kd y t))
def extF (a b : List DRule) : Nat → Nat → Nat → Bool
  | 0, _, _ => false
  | n + 1, i, j => match a[i]?, b[j]? with
    | some x, some y => extHead x y && extTail (extF a b n) x y
    | _, _ => false
/-- rule j of b extends rule i of a -/
def ext (a b : List DRule) (i j : Nat) : Bool := extF a b (i + 1) i j
theorem extTail_congr {ds : List DRule} (h : descOk ds = true) (i : Nat) (hi : i < ds.length) (e e' : Nat → Nat → Bool) (y : DRule) (he : ∀ k, k < i → ∀ j, e k j = e' k j) : extTail e ds[i] y = extTail e' ds[i] y := by
  have hk := kd_lt h i hi
  have hf := ruleFacts h i hi
  unfold extTail
  split
  · rename_i h7
    have hc := (hf.cho h7).1
    rw [he _ (hk 0 (by omega))]
    rw [allN_congr (f := extTag e ds[i] y) (g := extTag e' ds[i] y) (fun t ht => by unfold extTag; rw [he _ (hk (t + 1) (by omega))])]
  · rw [allN_congr (fun t ht => he _ (hk t ht) _)]
theorem extF_fuel {a : List DRule} (h : descOk a = true) (b : List DRule) : ∀ n m i j, i < n → i < m → extF a b n i j = extF a b m i j := by
  intro n
  induction n with
  | zero => intro m i j hn; omega
  | succ n ih =>
    intro m i j hn hm
    obtain ⟨m', rfl⟩ : ∃ m', m = m' + 1 := ⟨m - 1, by omega⟩
    unfold extF
    rcases Nat.lt_or_ge i a.length with hi | hi
    · rw [List.getElem?_eq_getElem hi]
      rcases Nat.lt_or_ge j b.length with hj | hj
      · rw [List.getElem?_eq_getElem hj]
        show (_ && _) = (_ && _)
        rw [extTail_congr h i hi _ (extF a b m') _ (fun k hk j => ih m' k j (by omega) (by omega))]
      · rw [List.getElem?_eq_none hj]
    · rw [List.getElem?_eq_none hi]
theorem ext_step {a b : List DRule} (h : descOk a = true) (i j : Nat) (hi : i < a.length) (hj : j < b.length) : ext a b i j = (extHead a[i] b[j] && extTail (ext a b) a[i] b[j]) := by
  unfold ext
  rw [extF, List.getElem?_eq_getElem hi, List.getElem?_eq_getElem hj]
  show (_ && _) = (_ && _)
  rw [extTail_congr h i hi (extF a b i) (fun i j => extF a b (i + 1) i j) b[j] (fun k hk j => extF_fuel h b i (k + 1) k j hk (by omega))]
/-- ExtendsRule, Extends, SameFormat -/
def extRule (a b : List DRule) (i j : Int) : Bool := knownB a i && (knownB b j && ext a b i.toNat j.toNat)
def extD (a b : List DRule) : Bool := extRule a b ((a.length : Int) - 1) ((b.length : Int) - 1)
def sameF (a b : List DRule) : Bool := extD a b && extD b a
end Go.Proofs.YtdbbdoldndnbhaaDoor

/- l9Item and l29Extends of the reference: the walks. -/
namespace Go.Proofs.YtdbbdoldndnbhaaDoor
open Go.RowKit Go.Sort

set_option maxRecDepth 100000 in
set_option maxHeartbeats 2000000 in
theorem sItem_c (p : DRule) (Ab : Option Addr) (cb : Nat) (An : Option Addr) (cn : Nat) (At : Option Addr) (ct : Nat) (Ak : Option Addr) (ck : Nat) (t : Int) (w : World) (h : RdS w p Ab cb An cn At ct Ak ck) (hk7 : p.kind = 7) (hl : p.kids.length = p.tags.length + 1) (hkn : ∀ j (hj : j < p.kids.length), p.kids[j] = (kd p j : Int)) :
    Gives Tryd.prog 44 #[vrule p (.slice Ab p.bytes.length cb) (.slice An p.names.length cn) (.slice At p.tags.length ct) (.slice Ak p.kids.length ck), .int .i64 t, .int .i64 0] w (.int .i64 (if tagN p.tags t < p.tags.length then (kd p (tagN p.tags t + 1) : Int) else -1)) := by
  have hlt := h.t.len; have hlk := h.k.len
  have eb := Ext_alloc (.cells #[.string p.nm, .int .i64 p.kind, .int .i64 p.size, .bool p.little, .slice Ab p.bytes.length cb, .slice An p.names.length cn, .slice At p.tags.length ct, .slice Ak p.kids.length ck] 69) (Ext.refl w)
  have BX := fun w' (e : Ext (w.alloc (.cells #[.string p.nm, .int .i64 p.kind, .int .i64 p.size, .bool p.little, .slice Ab p.bytes.length cb, .slice An p.names.length cn, .slice At p.tags.length ct, .slice Ak p.kids.length ck] 69)) w') => boxed e
  have FY : Hid (∀ k (hk : k < p.tags.length), (∀ j (hj : j < p.tags.length), j < k → p.tags[j] ≠ t) → p.tags[k] = t → (if tagN p.tags t < p.tags.length then (kd p (tagN p.tags t + 1) : Int) else -1) = (kd p (k + 1) : Int)) := by
    intro k hk hn he; rw [tagN_at hk he hn, if_pos hk]
  have FN : Hid ((∀ j (hj : j < p.tags.length), p.tags[j] ≠ t) → (if tagN p.tags t < p.tags.length then (kd p (tagN p.tags t + 1) : Int) else -1) = -1) := by
    intro hn; rw [tagN_none hn, if_neg (Nat.lt_irrefl _)]
  generalize (if tagN p.tags t < p.tags.length then (kd p (tagN p.tags t + 1) : Int) else -1) = R at *
  have k5 : (p.kind == 5) = false := by rw [hk7]; rfl
  have k6 : (p.kind == 6) = false := by rw [hk7]; rfl
  have k7 : (p.kind == 7) = true := by rw [hk7]; rfl
  have HKN := Lib.hid hkn; have HL1 := Lib.hid hl
  unfold vrule
  clear hk7 hkn hl
  go_enter Tryd.func44, Tryd.ntmps44
  go_wp2
  go_loopw [7] (fun ix wr => ∃ k : Nat, k ≤ p.tags.length ∧ ix = .int .i64 k ∧ Hid (∀ j (hj : j < p.tags.length), j < k → p.tags[j] ≠ t) ∧ Ext (w.alloc (.cells #[.string p.nm, .int .i64 p.kind, .int .i64 p.size, .bool p.little, .slice Ab p.bytes.length cb, .slice An p.names.length cn, .slice At p.tags.length ct, .slice Ak p.kids.length ck] 69)) wr) (fun ix _ => p.tags.length - (intOf ix).toNat)
  case atStart => exact ⟨0, by omega, rfl, (fun j _ hj => by omega), Ext.refl _⟩
  case round =>
    obtain ⟨k, hk, rfl, hn, he⟩ := hrel
    by_cases hlt : k < p.tags.length
    · obtain ⟨bt, ot, rfl, hbt, hct⟩ := (h.t.ext eb).at k hlt
      obtain ⟨bk, ok, rfl, hbk, hck⟩ := (h.k.ext eb).at (k + 1) (by have := HL1.out; omega)
      rw [HKN.out (k + 1) (by have := HL1.out; omega)] at hck
      have Y := Lib.hid (FY.out k hlt hn.out)
      have N : Hid (¬ p.tags[k] = t → ∀ j (hj : j < p.tags.length), j < k + 1 → p.tags[j] ≠ t) := fun hne j hj hjk => by
        rcases (by omega : j < k ∨ j = k) with hjk | rfl
        · exact hn.out j hj hjk
        · exact hne
      have d1 : decide ((k : Int) < (p.tags.length : Int)) = true := decide_eq_true (by omega)
      generalize p.tags[k] = x at *
      generalize kd p (k + 1) = y at *
      have hkl : k + 1 < p.kids.length := by have := HL1.out; omega
      clear FY FN hn h HKN
      by_cases hx : x = t
      · have HE := Lib.hid (Y.out hx); clear Y N
        have kx : (x == t) = true := by simpa using hx
        clear hx
        go_wp2
        go_ret
        exact ⟨ret_i64 HE.out.symm, eb.trans he⟩
      · have HE := Lib.hid (N.out hx); clear Y N
        have kx : (x == t) = false := by simpa using hx
        clear hx
        go_wp2
        go_roundw
        case rel => exact ⟨k + 1, by omega, by go_num, HE, he⟩
        case measure => simp [intOf]; omega
    · have HE := Lib.hid (FN.out (fun j hj => hn.out j hj (by omega)))
      have d1 : decide ((k : Int) < (p.tags.length : Int)) = false := decide_eq_false (by omega)
      clear FY FN
      go_wp2
      go_ret
      exact ⟨ret_i64 HE.out.symm, eb.trans he⟩
/-- four blocks that were laid one behind the other -/
theorem boxed4 {w : World} {c0 c1 c2 c3 : Array Value} {T0 T1 T2 T3 : TypeId} {w' : World} (h : Ext ((((w.alloc (.cells c0 T0)).alloc (.cells c1 T1)).alloc (.cells c2 T2)).alloc (.cells c3 T3)) w') :
    (∀ i, w'.cell? ⟨w.heap.size, i, none⟩ = c0[i]?) ∧ (∀ i, w'.cell? ⟨w.heap.size + 1, i, none⟩ = c1[i]?) ∧ (∀ i, w'.cell? ⟨w.heap.size + 1 + 1, i, none⟩ = c2[i]?) ∧ (∀ i, w'.cell? ⟨w.heap.size + 1 + 1 + 1, i, none⟩ = c3[i]?) := by
  have h1 := boxed2 h
  have h2 := boxed2 ((Ext_alloc _ (Ext_alloc _ (Ext.refl _))).trans h)
  have s1 : ((w.alloc (.cells c0 T0)).alloc (.cells c1 T1)).heap.size = w.heap.size + 1 + 1 := by simp
  rw [s1] at h1
  exact ⟨h2.1, h2.2.1, h1.1, h1.2.1⟩
theorem ext_no {a b : List DRule} (h : descOk a = true) (i j : Nat) (hi : i < a.length) (hj : j < b.length) (hh : extHead a[i] b[j] = false) : ext a b i j = false := by rw [ext_step h i j hi hj, hh]; rfl
theorem ext_yes {a b : List DRule} (h : descOk a = true) (i j : Nat) (hi : i < a.length) (hj : j < b.length) (hh : extHead a[i] b[j] = true) : ext a b i j = extTail (ext a b) a[i] b[j] := by rw [ext_step h i j hi hj, hh]; rfl
end Go.Proofs.YtdbbdoldndnbhaaDoor

/- tagIndex and the comparisons of the program, but for the parts. -/
namespace Go.Proofs.YtdbbdoldndnbhaaDoor
open Go.RowKit Go.Sort

def tagI (l : List Int) (t : Int) : Int := if tagN l t < l.length then (tagN l t : Int) else -1
set_option maxHeartbeats 400000 in
theorem iTag1_c (g : Nat) (x t : Int) (w : World) (hc : ∀ w', Ext w w' → w'.cell? ⟨g, 0, none⟩ = some (.int .i64 t)) :
    Gives Tryd.prog 79 #[.int .i64 x, .pointer (some ⟨g, 0, none⟩)] w (.bool (x == t)) := by
  go_enter Tryd.func79, Tryd.ntmps79
  go_wp2
  go_ret
  exact ⟨rfl, Ext.refl _⟩
set_option maxRecDepth 100000 in
set_option maxHeartbeats 1000000 in
theorem idxTag_c (A : Option Addr) (l : List Int) (c : Nat) (g : Nat) (t : Int) (w : World) (h : Rd0 vint w A l c) (hc : ∀ w', Ext w w' → w'.cell? ⟨g, 0, none⟩ = some (.int .i64 t)) :
    Gives Tryd.prog 78 #[.slice A l.length c, .func (.func 79) #[] #[.pointer (some ⟨g, 0, none⟩)]] w (.int .i64 (tagI l t)) := by
  have hl := h.len
  have FY : Hid (∀ k (hk : k < l.length), (∀ j (hj : j < l.length), j < k → l[j] ≠ t) → l[k] = t → tagI l t = (k : Int)) := by
    intro k hk hn he; unfold tagI; rw [tagN_at hk he hn, if_pos hk]
  have FN : Hid ((∀ j (hj : j < l.length), l[j] ≠ t) → tagI l t = -1) := by
    intro hn; unfold tagI; rw [tagN_none hn, if_neg (Nat.lt_irrefl _)]
  generalize tagI l t = R at *
  have C := Lib.hid (fun x w' (e : Ext w w') => iTag1_c g x t w' (fun w'' e' => hc w'' (e.trans e')))
  clear hc
  go_enter Tryd.func78, Tryd.ntmps78
  go_wp2
  go_loopw [9] (fun ix wr => ∃ k : Nat, k ≤ l.length ∧ ix = .int .i64 k ∧ Hid (∀ j (hj : j < l.length), j < k → l[j] ≠ t) ∧ Ext w wr) (fun ix _ => l.length - (intOf ix).toNat)
  case atStart => exact ⟨0, by omega, rfl, (fun j _ hj => by omega), Ext.refl _⟩
  case round =>
    obtain ⟨k, hk, rfl, hn, he⟩ := hrel
    by_cases hlt : k < l.length
    · obtain ⟨b, off, rfl, hb, hcl⟩ := h.at k hlt
      have Y := Lib.hid (FY.out k hlt hn.out)
      have N : Hid (¬ l[k] = t → ∀ j (hj : j < l.length), j < k + 1 → l[j] ≠ t) := fun hne j hj hjk => by
        rcases (by omega : j < k ∨ j = k) with hjk | rfl
        · exact hn.out j hj hjk
        · exact hne
      generalize l[k] = x at *
      clear FY FN hn h
      by_cases hx : x = t
      · have HE := Lib.hid (Y.out hx); clear Y N
        have kx : (x == t) = true := by simpa using hx
        clear hx
        go_wp2_with fail
        refine (C.out _ _ he).mono ?_; rintro _ w1 ⟨rfl, s1⟩; rw [kx]
        go_wp2
        go_ret
        exact ⟨ret_i64 HE.out.symm, he.trans s1⟩
      · have HE := Lib.hid (N.out hx); clear Y N
        have kx : (x == t) = false := by simpa using hx
        clear hx
        go_wp2_with fail
        refine (C.out _ _ he).mono ?_; rintro _ w1 ⟨rfl, s1⟩; rw [kx]
        go_wp2
        go_roundw
        case rel => exact ⟨k + 1, by omega, by go_num, HE, he.trans s1⟩
        case measure => simp [intOf]; omega
    · have HE := Lib.hid (FN.out (fun j hj => hn.out j hj (by omega)))
      clear FY FN
      go_wp2
      go_ret
      exact ⟨ret_i64 HE.out.symm, he⟩
set_option maxHeartbeats 1000000 in
theorem iTagIx_c (p : DRule) (Ab : Option Addr) (cb : Nat) (An : Option Addr) (cn : Nat) (At : Option Addr) (ct : Nat) (Ak : Option Addr) (ck : Nat) (t : Int) (w : World) (h : RdS w p Ab cb An cn At ct Ak ck) :
    Gives Tryd.prog 49 #[vrule p (.slice Ab p.bytes.length cb) (.slice An p.names.length cn) (.slice At p.tags.length ct) (.slice Ak p.kids.length ck), .int .i64 t] w (.int .i64 (tagI p.tags t)) := by
  have eb := Ext_alloc (.cells #[.int .i64 t] 3) (Ext_alloc (.cells #[.string p.nm, .int .i64 p.kind, .int .i64 p.size, .bool p.little, .slice Ab p.bytes.length cb, .slice An p.names.length cn, .slice At p.tags.length ct, .slice Ak p.kids.length ck] 69) (Ext.refl w))
  have BX := fun w' (e : Ext ((w.alloc (.cells #[.string p.nm, .int .i64 p.kind, .int .i64 p.size, .bool p.little, .slice Ab p.bytes.length cb, .slice An p.names.length cn, .slice At p.tags.length ct, .slice Ak p.kids.length ck] 69)).alloc (.cells #[.int .i64 t] 3)) w') => boxed2 e
  have B0 := fun w' e => (BX w' e).1
  have B1 := fun w' e => (BX w' e).2.1
  clear BX
  have C := Lib.hid (idxTag_c At p.tags ct (w.heap.size + 1) t _ (h.t.ext eb) (fun w' e => B1 w' e 0))
  unfold vrule
  go_enter Tryd.func49, Tryd.ntmps49
  go_wp2_with fail
  refine C.out.mono ?_; rintro _ w1 ⟨rfl, s1⟩
  go_wp2
  go_ret
  exact ⟨rfl, eb.trans s1⟩
end Go.Proofs.YtdbbdoldndnbhaaDoor

/-
  strconv.Itoa's and strings.Join's contracts at this seat: printed by the kit's tools lay-shelf.mjs and lay-plain.mjs out of the shelf (its numbers are this seat's).
-/
namespace Go.Proofs
open Go.Shelf Go.RowKit Go.Sort
def Tryd.laysM171_ren : Go.Shelf.Ren := ⟨fun | 171 => 80 | 243 => 101 | 246 => 121 | 283 => 131 | 284 => 132 | 285 => 133 | 286 => 134 | 129 => 138 | 317 => 137 | 318 => 139 | 319 => 140 | 320 => 141 | 337 => 142 | 338 => 143 | n => n, fun | 3 => 3 | 9 => 9 | 2 => 2 | 4 => 4 | 171 => 132 | 0 => 0 | 53 => 133 | 37 => 44 | 5 => 5 | 173 => 136 | 212 => 142 | 51 => 143 | 20 => 20 | 213 => 144 | 46 => 85 | 232 => 147 | 233 => 148 | n => n, fun | 17 => 0 | 18 => 2 | 19 => 3 | n => n⟩
theorem Tryd.laysM171 : Go.Proofs.LaysM.n171 Tryd.prog Tryd.laysM171_ren := {
  mixed := by kernel_rfl
  f129 := Tryd.func138.trans (congrArg some (by kernel_rfl))
  f171 := Tryd.func80.trans (congrArg some (by kernel_rfl))
  f243 := Tryd.func101.trans (congrArg some (by kernel_rfl))
  f246 := Tryd.func121.trans (congrArg some (by kernel_rfl))
  f283 := Tryd.func131.trans (congrArg some (by kernel_rfl))
  f284 := Tryd.func132.trans (congrArg some (by kernel_rfl))
  f285 := Tryd.func133.trans (congrArg some (by kernel_rfl))
  f286 := Tryd.func134.trans (congrArg some (by kernel_rfl))
  f317 := Tryd.func137.trans (congrArg some (by kernel_rfl))
  f318 := Tryd.func139.trans (congrArg some (by kernel_rfl))
  f319 := Tryd.func140.trans (congrArg some (by kernel_rfl))
  f320 := Tryd.func141.trans (congrArg some (by kernel_rfl))
  f337 := Tryd.func142.trans (congrArg some (by kernel_rfl))
  f338 := Tryd.func143.trans (congrArg some (by kernel_rfl))
  t0 := Tryd.underlying0
  a0 := Tryd.isAgg0
  z0 := Tryd.sizeOf0
  v0 := Tryd.zeroValue0
  t2 := Tryd.underlying2
  a2 := Tryd.isAgg2
  z2 := Tryd.sizeOf2
  v2 := Tryd.zeroValue2
  t3 := Tryd.underlying3
  a3 := Tryd.isAgg3
  z3 := Tryd.sizeOf3
  v3 := Tryd.zeroValue3
  t4 := Tryd.underlying4
  a4 := Tryd.isAgg4
  z4 := Tryd.sizeOf4
  v4 := Tryd.zeroValue4
  t5 := Tryd.underlying5
  a5 := Tryd.isAgg5
  z5 := Tryd.sizeOf5
  v5 := Tryd.zeroValue5
  t9 := Tryd.underlying9
  a9 := Tryd.isAgg9
  z9 := Tryd.sizeOf9
  v9 := Tryd.zeroValue9
  t20 := Tryd.underlying20
  a20 := Tryd.isAgg20
  z20 := Tryd.sizeOf20
  v20 := Tryd.zeroValue20
  t37 := Tryd.underlying44
  a37 := Tryd.isAgg44
  z37 := Tryd.sizeOf44
  v37 := Tryd.zeroValue44
  t46 := Tryd.underlying85
  a46 := Tryd.isAgg85
  z46 := Tryd.sizeOf85
  v46 := Tryd.zeroValue85
  t51 := Tryd.underlying143
  a51 := Tryd.isAgg143
  z51 := Tryd.sizeOf143
  v51 := Tryd.zeroValue143
  t53 := Tryd.underlying133
  a53 := Tryd.isAgg133
  z53 := Tryd.sizeOf133
  v53 := Tryd.zeroValue133
  t171 := Tryd.underlying132
  a171 := Tryd.isAgg132
  z171 := Tryd.sizeOf132
  v171 := Tryd.zeroValue132
  t173 := Tryd.underlying136
  a173 := Tryd.isAgg136
  z173 := Tryd.sizeOf136
  v173 := Tryd.zeroValue136
  t212 := Tryd.underlying142
  a212 := Tryd.isAgg142
  z212 := Tryd.sizeOf142
  v212 := Tryd.zeroValue142
  t213 := Tryd.underlying144
  a213 := Tryd.isAgg144
  z213 := Tryd.sizeOf144
  t232 := Tryd.underlying147
  a232 := Tryd.isAgg147
  z232 := Tryd.sizeOf147
  v232 := Tryd.zeroValue147
  t233 := Tryd.underlying148
  a233 := Tryd.isAgg148
  z233 := Tryd.sizeOf148
  v233 := Tryd.zeroValue148
  g17 := by kernel_rfl
  g18 := by kernel_rfl
  g19 := by kernel_rfl
  i0 := by kernel_rfl
  i2 := by kernel_rfl
  i3 := by kernel_rfl
  i4 := by kernel_rfl
  i5 := by kernel_rfl
  i9 := by kernel_rfl
  i20 := by kernel_rfl
  i37 := by kernel_rfl
  i46 := by kernel_rfl
  i51 := by kernel_rfl
  i53 := by kernel_rfl
  i171 := by kernel_rfl
  i173 := by kernel_rfl
  i212 := by kernel_rfl
  i232 := by kernel_rfl
  i233 := by kernel_rfl
  m17 := by kernel_rfl
  m18 := by kernel_rfl
  m19 := by kernel_rfl }
theorem Tryd.strconv_Itoa (n : Int) (h0 : -9223372036854775808 ≤ n) (h1 : n ≤ 9223372036854775807) (w : World) (htab : Lib.TabIs Tryd.prog w "internal/strconv.uint64pow10" .u64 Lib.pow10Tab) :
    Calls Tryd.prog 80 #[.int .i64 n] w fun e w' => e = .returned (.string ⟨(Lib.itoa n).toArray⟩) ∧ ∃ k os, w' = grow (w.drewN k) os := Any.strconv_Itoa Tryd.laysM171 n h0 h1 w htab
def Tryd.lays156_ren : Go.Shelf.Ren := ⟨fun | 156 => 83 | 165 => 103 | 166 => 104 | 169 => 105 | 240 => 122 | 241 => 123 | 276 => 135 | 277 => 136 | n => n, fun | 31 => 26 | 9 => 9 | 3 => 3 | 4 => 4 | 0 => 0 | 20 => 20 | 72 => 109 | 76 => 113 | 70 => 107 | 37 => 44 | 75 => 112 | 127 => 126 | 164 => 138 | 5 => 5 | 80 => 115 | n => n, fun | n => n⟩
theorem Tryd.lays156 : Go.Proofs.Lays.n156 Tryd.prog Tryd.lays156_ren := {
  mixed := by kernel_rfl
  f156 := Tryd.func83.trans (congrArg some (by kernel_rfl))
  f165 := Tryd.func103.trans (congrArg some (by kernel_rfl))
  f166 := Tryd.func104.trans (congrArg some (by kernel_rfl))
  f169 := Tryd.func105.trans (congrArg some (by kernel_rfl))
  f240 := Tryd.func122.trans (congrArg some (by kernel_rfl))
  f241 := Tryd.func123.trans (congrArg some (by kernel_rfl))
  f276 := Tryd.func135.trans (congrArg some (by kernel_rfl))
  f277 := Tryd.func136.trans (congrArg some (by kernel_rfl))
  t0 := Tryd.underlying0
  a0 := Tryd.isAgg0
  z0 := Tryd.sizeOf0
  v0 := Tryd.zeroValue0
  t3 := Tryd.underlying3
  a3 := Tryd.isAgg3
  z3 := Tryd.sizeOf3
  v3 := Tryd.zeroValue3
  t4 := Tryd.underlying4
  a4 := Tryd.isAgg4
  z4 := Tryd.sizeOf4
  v4 := Tryd.zeroValue4
  t9 := Tryd.underlying9
  a9 := Tryd.isAgg9
  z9 := Tryd.sizeOf9
  v9 := Tryd.zeroValue9
  t20 := Tryd.underlying20
  a20 := Tryd.isAgg20
  z20 := Tryd.sizeOf20
  v20 := Tryd.zeroValue20
  t31 := Tryd.underlying26
  a31 := Tryd.isAgg26
  z31 := Tryd.sizeOf26
  v31 := Tryd.zeroValue26
  t37 := Tryd.underlying44
  a37 := Tryd.isAgg44
  z37 := Tryd.sizeOf44
  v37 := Tryd.zeroValue44
  t70 := Tryd.underlying107
  a70 := Tryd.isAgg107
  z70 := Tryd.sizeOf107
  v70 := Tryd.zeroValue107
  t72 := Tryd.underlying109
  a72 := Tryd.isAgg109
  z72 := Tryd.sizeOf109
  v72 := Tryd.zeroValue109
  t75 := Tryd.underlying112
  a75 := Tryd.isAgg112
  z75 := Tryd.sizeOf112
  v75 := Tryd.zeroValue112
  t76 := Tryd.underlying113
  a76 := Tryd.isAgg113
  z76 := Tryd.sizeOf113
  v76 := Tryd.zeroValue113
  t127 := Tryd.underlying126
  a127 := Tryd.isAgg126
  z127 := Tryd.sizeOf126
  v127 := Tryd.zeroValue126
  t164 := Tryd.underlying138
  a164 := Tryd.isAgg138
  z164 := Tryd.sizeOf138
  v164 := Tryd.zeroValue138 }
theorem Tryd.Builder_Extra_156 : Builder.Extra Tryd.prog Tryd.lays156_ren := {
  sizeBuilder := by kernel_rfl
  liesBuilder := by kernel_rfl
  t5 := Tryd.underlying5
  a5 := Tryd.isAgg5
  z5 := Tryd.sizeOf5
  v5 := Tryd.zeroValue5
  infoByte := by kernel_rfl
  cellsByte := by kernel_rfl
  sizeByte := by kernel_rfl
  neB5 := by decide }
theorem Tryd.strings_Join_none (a : Option Addr) (c : Nat) (sep : ByteArray) (w : World) :
    Calls Tryd.prog 83 #[.slice a 0 c, .string sep] w fun e w' => e = .returned (.string ⟨#[]⟩) ∧ w' = w := Any.strings_Join_none Tryd.lays156 Tryd.Builder_Extra_156 a c sep w
theorem Tryd.strings_Join (bk o c : Nat) (xs : List ByteArray) (sep : ByteArray) (w : World) (hcells : ∀ (j : Nat) x, xs[j]? = some x → w.cell? ⟨bk, o + j, none⟩ = some (.string x)) (hbk : bk < w.heap.size) (hN : xs.length ≤ 140737488355328) (hcap : xs.length ≤ c) (hlen : (Lib.join (xs.map (·.data.toList)) sep.data.toList).length ≤ 140737488355328) :
    Calls Tryd.prog 83 #[.slice (some ⟨bk, o, none⟩) xs.length c, .string sep] w fun e w' => e = .returned (.string ⟨(Lib.join (xs.map (·.data.toList)) sep.data.toList).toArray⟩) ∧ Below w.heap.size w w' := Any.strings_Join Tryd.lays156 Tryd.Builder_Extra_156 bk o c xs sep w hcells hbk hN hcap hlen
end Go.Proofs

/- The decimal numeral: FormatInt of both sides. -/
namespace Go.Proofs.YtdbbdoldndnbhaaDoor
open Go.RowKit Go.Sort

/-- the table that strconv reads lies where the program's start lays it -/
def Tab (w : World) : Prop := Lib.TabIs Tryd.prog w "internal/strconv.uint64pow10" .u64 Lib.pow10Tab
theorem Tab.ext {w w' : World} (h : Tab w) (e : Ext w w') : Tab w' := by
  unfold Tab Lib.TabIs World.var? at *
  rw [Option.bind_eq_some_iff] at *
  obtain ⟨g, hg, hc⟩ := h
  refine ⟨g, hg, ?_⟩
  rcases Nat.lt_or_ge g w.heap.size with hlt | hge
  · rw [Below.block e g hlt]; exact hc
  · rw [Array.getElem?_eq_none hge] at hc; simp at hc
theorem i64_of_wf {n : Int} (h : (Lit.int .i64 n).wf = true) : -9223372036854775808 ≤ n ∧ n ≤ 9223372036854775807 := by
  have h' : (decide (IntKind.i64.min ≤ n) && decide (n ≤ IntKind.i64.max)) = true := h
  rw [Bool.and_eq_true, decide_eq_true_eq, decide_eq_true_eq] at h'
  have e1 : IntKind.i64.min = -9223372036854775808 := by decide
  have e2 : IntKind.i64.max = 9223372036854775807 := by decide
  omega
def itoaB (n : Int) : ByteArray := ⟨(Lib.itoa n).toArray⟩
theorem nDigits_le {u : Nat} {k : Nat} (hk : 1 ≤ k) (h : u < 10 ^ k) : Lib.nDigits u ≤ k := by
  rcases Nat.lt_or_ge u 10 with hu | hu
  · rw [Lib.nDigits_small hu]; exact hk
  · obtain ⟨j, hj⟩ : ∃ j, Lib.nDigits u = j + 1 := ⟨Lib.nDigits u - 1, by have := Lib.nDigits_pos u; omega⟩
    rw [hj]
    refine Nat.le_of_not_lt fun hlt => ?_
    have h1 : 10 ^ j ≤ u := by
      have := Lib.lt_pow_nDigits (u / 10)
      rw [Lib.nDigits_big (by omega)] at hj
      have hj' : Lib.nDigits (u / 10) = j := by omega
      clear this hlt h hk
      have hmin : ∀ (m v : Nat), Lib.nDigits v = m → 1 ≤ v → 10 ^ (m - 1) ≤ v := by
        intro m
        induction m with
        | zero => intro v hv h1; have := Lib.nDigits_pos v; omega
        | succ m ih =>
          intro v hv h1
          rcases Nat.lt_or_ge v 10 with hv10 | hv10
          · rw [Lib.nDigits_small hv10] at hv; obtain rfl : m = 0 := by omega
            simpa using h1
          · rw [Lib.nDigits_big (by omega)] at hv
            have h2 := ih (v / 10) (by omega) (by omega)
            obtain ⟨m', rfl⟩ : ∃ m', m = m' + 1 := ⟨m - 1, by have := Lib.nDigits_pos (v/10); omega⟩
            simp only [Nat.add_sub_cancel] at h2 ⊢
            rw [Nat.pow_succ]; omega
      have := hmin (j + 1) u (by rw [Lib.nDigits_big (by omega)]; omega) (by omega)
      simpa using this
    have : 10 ^ k ≤ 10 ^ j := Nat.pow_le_pow_right (by omega) (by omega)
    omega
theorem itoa_size (n : Int) (h0 : -9223372036854775808 ≤ n) (h1 : n ≤ 9223372036854775807) : (itoaB n).size ≤ 20 := by
  show (Lib.itoa n).toArray.size ≤ 20
  rw [List.size_toArray]
  unfold Lib.itoa
  split
  · simp only [List.length_cons, Lib.decDigits_length]
    have := nDigits_le (u := n.natAbs) (k := 19) (by omega) (by omega)
    omega
  · rw [Lib.decDigits_length]
    have := nDigits_le (u := n.toNat) (k := 19) (by omega) (by omega)
    omega
theorem iFormatInt_c (n : Int) (w : World) (hT : Tab w) (h0 : -9223372036854775808 ≤ n) (h1 : n ≤ 9223372036854775807) :
    Gives Tryd.prog 50 #[.int .i64 n] w (.string (itoaB n)) := by
  have C := Lib.hid (Tryd.strconv_Itoa n h0 h1 w hT)
  unfold itoaB
  generalize (Lib.itoa n) = l at *
  go_enter Tryd.func50, Tryd.ntmps50
  go_wp2_with fail
  refine C.out.mono ?_; rintro _ w1 ⟨rfl, k, os, hw⟩
  have he : Ext w w1 := by rw [hw]; exact Lib.below_grow _ w (Nat.le_refl _) k os
  clear hw
  go_wp2
  go_ret
  exact ⟨rfl, he⟩
theorem mt_dec {n : Nat} (h : 0 < n) (s : ByteArray) : mt n s = ⟨(Lib.decDigits n).toArray⟩ ++ s := by
  induction n using Nat.strongRecOn generalizing s with
  | _ n ih =>
    rw [mt_step h]
    by_cases h10 : n < 10
    · rw [show n / 10 = 0 by omega, mt_zero, Lib.decDigits_one h10]
      show _ = (⟨#[UInt8.ofNat (48 + n)]⟩ : ByteArray) ++ s
      rw [dig8, Nat.mod_eq_of_lt h10]
    · rw [ih (n / 10) (by omega) (by omega)]
      conv => rhs; rw [Lib.decDigits, dif_neg h10]
      apply ByteArray.ext
      simp [ByteArray.data_append, dig8]
theorem itoaB_pos {n : Nat} (h : 0 < n) : itoaB n = mt n ⟨#[]⟩ := by
  rw [mt_dec h]; unfold itoaB Lib.itoa
  rw [if_neg (by omega)]
  apply ByteArray.ext
  simp [ByteArray.data_append]
theorem itoaB_neg {n : Nat} (h : 0 < n) : itoaB (-(n : Int)) = ⟨#[45]⟩ ++ mt n ⟨#[]⟩ := by
  rw [mt_dec h]; unfold itoaB Lib.itoa
  rw [if_pos (by omega)]
  apply ByteArray.ext
  simp [ByteArray.data_append]
theorem itoaB_zero : itoaB 0 = ⟨#[48]⟩ := by
  unfold itoaB Lib.itoa
  rw [if_neg (by omega), show (0 : Int).toNat = 0 from rfl, Lib.decDigits_one (by omega)]; rfl
set_option maxRecDepth 100000 in
set_option maxHeartbeats 400000 in
theorem sFormatInt_pos (k : Nat) (w : World) (hk : 0 < k) (hk2 : k ≤ 9223372036854775807) :
    Gives Tryd.prog 45 #[.int .i64 k] w (.string (mt k ⟨#[]⟩)) := by
  have dk : decide ((k : Int) < 0) = false := decide_eq_false (by omega)
  go_enter Tryd.func45, Tryd.ntmps45
  go_wp2
  go_loopw [4, 3] (fun kk t wr => ∃ (n : Nat) (s : ByteArray), s.size + n ≤ k ∧ kk = .int .i64 n ∧ t = .string s ∧ Hid (mt n s = mt k ⟨#[]⟩) ∧ Ext w wr) (fun kk _ _ => (intOf kk).toNat)
  case atStart => exact ⟨k, ⟨#[]⟩, Nat.le_of_eq (Nat.zero_add k), rfl, rfl, rfl, Ext.refl _⟩
  case round =>
    obtain ⟨n, s, hn, rfl, rfl, hs, he⟩ := hrel
    by_cases h0 : 0 < n
    · have hst := Lib.hid ((mt_step h0 s).symm.trans hs.out)
      have hcv : ∀ w' : World, (convert 44 9 (.slice (some ⟨w'.heap.size, 0, none⟩) 1 1)).run Tryd.prog (w'.alloc (.cells #[.int .u8 (48 + (n : Int) % 10)] 5)) = .ok (.string ⟨#[dig8 n]⟩) (w'.alloc (.cells #[.int .u8 (48 + (n : Int) % 10)] 5)) := by
        intro w'
        have := run_one_byte w' (48 + n % 10)
        rw [show ((48 + n % 10 : Nat) : Int) = 48 + (n : Int) % 10 by omega] at this
        exact this
      have hcvr := hcv wr
      clear hcv
      go_wp2
      go_roundw
      case rel => exact ⟨n / 10, _, by rw [ByteArray.size_append]; show 1 + s.size + n / 10 ≤ k; omega, by go_num, rfl, hst, Ext_alloc _ he⟩
      case measure => simp [intOf]; omega
    · obtain rfl : n = 0 := by omega
      have hs2 := Lib.hid ((mt_zero s).symm.trans hs.out)
      clear hs
      go_wp2
      go_ret
      exact ⟨by rw [hs2.out]; rfl, he⟩
set_option maxRecDepth 100000 in
set_option maxHeartbeats 400000 in
theorem sFormatInt_neg (k : Nat) (w : World) (hk : 0 < k) (hk2 : k ≤ 9223372036854775808) :
    Gives Tryd.prog 45 #[.int .i64 (-(k : Int))] w (.string (⟨#[45]⟩ ++ mt k ⟨#[]⟩)) := by
  have dk : decide (-(k : Int) < 0) = true := decide_eq_true (by omega)
  go_enter Tryd.func45, Tryd.ntmps45
  go_wp2
  go_loopw [4, 3] (fun kk t wr => ∃ (n : Nat) (s : ByteArray), 2 * s.size + n ≤ k + 1 ∧ (0 < n → 2 * s.size + n ≤ k) ∧ kk = .int .i64 (-(n : Int)) ∧ t = .string s ∧ Hid (mt n s = mt k ⟨#[]⟩) ∧ Ext w wr) (fun kk _ _ => (-(intOf kk)).toNat)
  case atStart => exact ⟨k, ⟨#[]⟩, by show 2 * 0 + k ≤ k + 1; omega, fun _ => Nat.le_of_eq (Nat.zero_add k), rfl, rfl, rfl, Ext.refl _⟩
  case round =>
    obtain ⟨n, s, hn, hn2, rfl, rfl, hs, he⟩ := hrel
    by_cases h0 : 0 < n
    · have hn3 := hn2 h0
      have hst := Lib.hid ((mt_step h0 s).symm.trans hs.out)
      have hcv : ∀ w' : World, (convert 44 9 (.slice (some ⟨w'.heap.size, 0, none⟩) 1 1)).run Tryd.prog (w'.alloc (.cells #[.int .u8 (48 + (n : Int) % 10)] 5)) = .ok (.string ⟨#[dig8 n]⟩) (w'.alloc (.cells #[.int .u8 (48 + (n : Int) % 10)] 5)) := by
        intro w'
        have := run_one_byte w' (48 + n % 10)
        rw [show ((48 + n % 10 : Nat) : Int) = 48 + (n : Int) % 10 by omega] at this
        exact this
      have hcvr := hcv wr
      have hmod : (-(n : Int)).tmod 10 = -((n : Int) % 10) := by rw [Int.neg_tmod, Int.tmod_eq_emod_of_nonneg (by omega)]
      have hdiv : (-(n : Int)).tdiv 10 = -((n : Int) / 10) := by rw [Int.neg_tdiv, Int.tdiv_eq_ediv_of_nonneg (by omega)]
      clear hcv
      by_cases hm : (n : Int) % 10 = 0
      · rw [hm, Int.add_zero] at hcvr
        go_wp2
        go_roundw
        case rel => exact ⟨n / 10, _, by rw [ByteArray.size_append]; show 2 * (1 + s.size) + n / 10 ≤ k + 1; omega, fun h => by rw [ByteArray.size_append]; show 2 * (1 + s.size) + n / 10 ≤ k; omega, by go_num, rfl, hst, Ext_alloc _ he⟩
        case measure => simp [intOf]; omega
      · go_wp2
        go_roundw
        case rel => exact ⟨n / 10, _, by rw [ByteArray.size_append]; show 2 * (1 + s.size) + n / 10 ≤ k + 1; omega, fun h => by rw [ByteArray.size_append]; show 2 * (1 + s.size) + n / 10 ≤ k; omega, by go_num, rfl, hst, Ext_alloc _ he⟩
        case measure => simp [intOf]; omega
    · obtain rfl : n = 0 := by omega
      have hsz : s.size ≤ 4611686018427387904 := by omega
      have z0 : (-((0 : Nat) : Int) != 0) = false := by simp
      have hs2 := Lib.hid ((mt_zero s).symm.trans hs.out)
      clear hs
      go_wp2
      all_goals go_ret
      all_goals exact ⟨by rw [hs2.out]; rfl, he⟩
theorem sFormatInt_c (n : Int) (w : World) (h0 : -9223372036854775808 ≤ n) (h1 : n ≤ 9223372036854775807) :
    Gives Tryd.prog 45 #[.int .i64 n] w (.string (itoaB n)) := by
  rcases Int.lt_trichotomy n 0 with h | rfl | h
  · obtain ⟨k, rfl⟩ : ∃ k : Nat, n = -(k : Int) := ⟨n.natAbs, by omega⟩
    rw [itoaB_neg (by omega)]
    exact sFormatInt_neg k w (by omega) (by omega)
  · rw [itoaB_zero]
    go_enter Tryd.func45, Tryd.ntmps45
    go_wp2
    go_ret
    exact ⟨rfl, Ext.refl _⟩
  · obtain ⟨k, rfl⟩ : ∃ k : Nat, n = (k : Int) := ⟨n.toNat, by omega⟩
    rw [itoaB_pos (by omega)]
    exact sFormatInt_pos k w (by omega) (by omega)
end Go.Proofs.YtdbbdoldndnbhaaDoor

/- AddedTags of the program and of the reference: the walks. -/
namespace Go.Proofs.YtdbbdoldndnbhaaDoor
open Go.RowKit Go.Sort

section
variable {P : Program} {ops : Array Oper} {rest : List Oper} {o : Oper} {a : Act} {Q : Exit → Act → World → Prop} {K : Act → World → Prop} {E : Prop}
/-- append(s, y1, .., ym) inside a region, with what becomes of the block -/
theorem step_appNB (hgd : o.guard = none) (s x : Operand) (t : TypeId) (ho : o.op = .call { callee := .builtin .append, args := #[s, x], argTypes := #[t, t] })
    {e : TypeId} {bytes : Nat} {z : Value} (hE : Elem P t e 1 bytes z) (hby : 1 ≤ bytes) (w0 w W : World) {α : Type} (f : α → Value) (hf : ∀ x, (f x).oneCell' = true) (v : Value) (hs : a.eval s = v) (m c : Nat) (hx : a.eval x = .slice (some ⟨w.heap.size, 0, none⟩) m c)
    (l ys : List α) (cs : Array Value) (hcs : cs = (ys.map f).toArray) (hW : W = w.alloc (.cells cs e)) (hown : OwnL f e w0 w v l) (he : Ext w0 w) (hm : m = ys.length)
    (hb : (l.length + ys.length) * bytes ≤ 140737488355328)
    (h : ∀ v' w', OwnL f e w0 w' v' (l ++ ys) → Ext w0 w' → W.grownBy w' v.ownBlock → (v'.ownBlock = v.ownBlock ∨ v'.ownBlock = some W.heap.size) → K (a.put o.dst v') w') :
    if Region.wanted o (yielded ops a.tmps) = true then Oper.wp P o a W K Q else E := by
  subst hW; subst hcs; subst hm
  have hw : Region.wanted o (yielded ops a.tmps) = true := by simp [Region.wanted, hgd]
  rw [if_pos hw]
  obtain ⟨i0, hi0, hz0, hz1, hz2⟩ := info_parts hE.hi
  have hown2 := hown.ext (Ext_alloc (.cells (ys.map f).toArray e) (Ext.refl w))
  have he2 := Ext_alloc (.cells (ys.map f).toArray e) he
  obtain ⟨v', w', hr, h2, h3, h4, h5⟩ := run_append_own_at (P := P) _ w0.heap.size t o.type e i0 z 1 bytes hE.ht hi0 hz0 hz1 hz2 hE.hz hE.hs v l.length (l.map f) hown2 ⟨w.heap.size, 0, none⟩ ys.length c (ys.map f) (by simp)
    (fun j u hu => by rw [World.cell?_alloc_at']; exact hu) (fun u hu => by obtain ⟨x, _, rfl⟩ := List.mem_map.1 hu; exact hf x) (by have := Nat.mul_le_mul_left (l.length + ys.length) hby; simp only [maxLen]; omega) hb he2.size
  unfold Oper.wp execOp
  simp only [ho, resolve, invoke, builtin, Sem.run_bind, Sem.run_pure, Result.andThen_ok, List.map_toArray, List.map_cons, List.map_nil, hs, hx, hr]
  exact h v' w' (by simpa [OwnL] using h2) (he2.grown h3 (fun k hk => (World.ownsRow.lt hown2 k hk).1)) h3 h5
end
theorem own_ne {v v' : Value} {g n : Nat} (h : v'.ownBlock = v.ownBlock ∨ v'.ownBlock = some n) (h1 : v.ownBlock ≠ some g) (h2 : g < n) : v'.ownBlock ≠ some g := by
  intro hh
  rcases h with h | h
  · exact h1 (h.symm.trans hh)
  · rw [h] at hh; injection hh with hh; omega
theorem own_eq {α : Type} {f : α → Value} {e : TypeId} {w0 w : World} {v : Value} {l l' : List α} (h : OwnL f e w0 w v l) (he : l = l') : OwnL f e w0 w v l' := he ▸ h
def newT (x y : DRule) (k : Nat) : List ByteArray := ((y.tags.take k).filter (fun t => !decide (tagN x.tags t < x.tags.length))).map (fun t => y.nm ++ ⟨#[58]⟩ ++ itoaB t)
theorem newT_yes {x y : DRule} {k : Nat} (hk : k < y.tags.length) (h : ¬ tagN x.tags y.tags[k] < x.tags.length) : newT x y (k + 1) = newT x y k ++ [y.nm ++ ⟨#[58]⟩ ++ itoaB y.tags[k]] := by
  unfold newT; rw [List.take_succ_eq_append_getElem hk, List.filter_append]; simp [h]
theorem newT_no {x y : DRule} {k : Nat} (hk : k < y.tags.length) (h : tagN x.tags y.tags[k] < x.tags.length) : newT x y (k + 1) = newT x y k := by
  unfold newT; rw [List.take_succ_eq_append_getElem hk, List.filter_append]; simp [h]
theorem newT_zero (x y : DRule) : newT x y 0 = [] := rfl
theorem newT_len (x y : DRule) (k : Nat) : (newT x y k).length ≤ k := by
  unfold newT; rw [List.length_map]
  have := List.length_filter_le (fun t => !decide (tagN x.tags t < x.tags.length)) (y.tags.take k)
  rw [List.length_take] at this; omega
def addT1 (a : List DRule) (y : DRule) : List ByteArray :=
  if y.kind = 7 then (if 0 ≤ findR a y.nm then (match a[(findR a y.nm).toNat]? with | some x => if x.kind = 7 then newT x y y.tags.length else [] | none => []) else []) else []
theorem addT1_len (a : List DRule) (y : DRule) : (addT1 a y).length ≤ y.tags.length := by
  unfold addT1
  split
  · split
    · split
      · split
        · exact newT_len _ _ _
        · simp
      · simp
    · simp
  · simp
def addTk (a b : List DRule) (k : Nat) : List ByteArray := (b.take k).flatMap (addT1 a)
theorem addTk_succ {a b : List DRule} {k : Nat} (hk : k < b.length) : addTk a b (k + 1) = addTk a b k ++ addT1 a b[k] := by unfold addTk; rw [List.take_succ_eq_append_getElem hk, List.flatMap_append, List.flatMap_cons, List.flatMap_nil, List.append_nil]
theorem flat_len (a b : List DRule) : (b.flatMap (addT1 a)).length ≤ (b.map szRl).sum := by
  induction b with
  | nil => simp
  | cons y s ih => have := addT1_len a y; simp only [List.flatMap_cons, List.length_append, List.map_cons, List.sum_cons]; unfold szRl at *; omega
theorem addTk_len (a b : List DRule) (k : Nat) : (addTk a b k).length ≤ szD b := by
  have h1 := flat_len a (b.take k)
  have h2 := sum_split szRl b k
  unfold addTk szD; omega
def addT (a b : List DRule) : List ByteArray := if descOk a && descOk b then addTk a b b.length else []
theorem addT_len {a b : List DRule} {n : Nat} (h : szD b ≤ n) : (addT a b).length ≤ n := by
  unfold addT; split
  · have := addTk_len a b b.length; omega
  · simp
theorem addT1_kind {a : List DRule} {y : DRule} (h : ¬ y.kind = 7) : addT1 a y = [] := if_neg h
theorem addT1_none {a : List DRule} {y : DRule} (h : findR a y.nm < 0) : addT1 a y = [] := by unfold addT1; rw [if_neg (by omega : ¬ 0 ≤ findR a y.nm)]; split <;> rfl
theorem addT1_other {a : List DRule} {y : DRule} {k : Nat} (hf : findR a y.nm = (k : Int)) (hk : k < a.length) (h : ¬ a[k].kind = 7) : addT1 a y = [] := by
  unfold addT1; rw [hf, Int.toNat_natCast, List.getElem?_eq_getElem hk]; dsimp only; rw [if_neg h]; split <;> (try split) <;> rfl
theorem addT1_some {a : List DRule} {y : DRule} {k : Nat} (h7 : y.kind = 7) (hf : findR a y.nm = (k : Int)) (hk : k < a.length) (h : a[k].kind = 7) : addT1 a y = newT a[k] y y.tags.length := by
  unfold addT1; rw [if_pos h7, hf, Int.toNat_natCast, List.getElem?_eq_getElem hk]; dsimp only; rw [if_pos h, if_pos (by omega)]
theorem nm_le {b : List DRule} {y : DRule} (hm : y ∈ b) : y.nm.size ≤ szD b ∧ y.tags.length ≤ szD b := by
  have := sum_mem szRl b y hm
  unfold szD; unfold szRl at *; omega
set_option maxRecDepth 100000 in
set_option maxHeartbeats 8000000 in
theorem sAdded_c (A A' : Option Addr) (a b : List DRule) (c c' : Nat) (w : World) (ha : RdD w A a c) (hb : RdD w A' b c') (hsa : ShortD a) (hwa : WfD a) (hsb : ShortD b) (hwb : WfD b) (hL : szD b ≤ 1048576) :
    Calls Tryd.prog 9 #[vdesc (.slice A a.length c), vdesc (.slice A' b.length c')] w fun e w' => ∃ v, e = .returned v ∧ OwnL vstr 9 w w' v (addT a b) ∧ Ext w w' := by
  have hl := ha.len
  have hl' := hb.len
  have hbl : b.length ≤ 1048576 := by unfold szD at hL; omega
  have eb := Ext_alloc (.cells #[.slice A' b.length c'] 30) (Ext_alloc (.cells #[.slice A a.length c] 30) (Ext.refl w))
  have BX := fun w' (e : Ext ((w.alloc (.cells #[.slice A a.length c] 30)).alloc (.cells #[.slice A' b.length c'] 30)) w') => boxed2 e
  have B0 := fun w' e => (BX w' e).1
  have B1 := fun w' e => (BX w' e).2.1
  clear BX
  have CA := Lib.hid (fun w h => sValidDesc_c A a c w h hsa hwa)
  have CB := Lib.hid (fun w h => sValidDesc_c A' b c' w h hsb hwb)
  have CF := Lib.hid (fun s w h => sFind_c A a c s w h)
  unfold vdesc at *
  obtain ⟨W0, hW0⟩ : ∃ W0, W0 = ((w.alloc (.cells #[.slice A a.length c] 30)).alloc (.cells #[.slice A' b.length c'] 30)) := ⟨_, rfl⟩
  rw [← hW0] at eb B0 B1
  have hs0 : W0.heap.size = w.heap.size + 1 + 1 := by rw [hW0]; simp
  have OE := OwnL.empty (f := vstr) (e := 9) (Ext.refl W0)
  rw [hs0] at OE
  have HOE := Lib.hid OE; have HW0 := Lib.hid hW0
  have x0 := Ext_alloc (.cells #[] 9) (Ext.refl W0)
  have HA := Lib.hid (ha.ext eb); have HB := Lib.hid (hb.ext eb)
  have HWA := Lib.hid hwa; have HWB := Lib.hid hwb
  
  clear OE hW0 hs0 ha hb hwa hwb hsa hsb
  by_cases hz : descOk a = false ∨ descOk b = false
  · have HE : Hid (addT a b = []) := by show _ = _; unfold addT; rcases hz with h | h <;> simp [h]
    go_enter Tryd.func9, Tryd.ntmps9
    go_wp2_with fail
    go_loopw [6, 5] (fun i v wr => i = .int .i64 0 ∧ Hid (OwnL vstr 9 W0 wr v []) ∧ Ext W0 wr) (fun _ _ _ => 0)
    case atStart => rw [← HW0.out]; exact ⟨rfl, HOE.out, x0⟩
    case round =>
      obtain ⟨rfl, ho, he⟩ := hrel
      rcases Nat.eq_zero_or_pos b.length with hb0 | hb0
      · have b0 : ¬ (0 : Int) < (b.length : Int) := by omega
        have d0 : decide (0 < b.length) = false := decide_eq_false (by omega)
        clear hb0
        go_wp2
        go_ret
        exact ⟨_, rfl, by rw [HE.out]; exact ho.out.down eb.size, eb.trans he⟩
      · have b0 : (0 : Int) < (b.length : Int) := by omega
        have d0 : decide (0 < b.length) = true := decide_eq_true (by omega)
        go_wp2_with fail
        refine (CA.out _ (HA.out.ext he)).mono ?_; rintro _ w1 ⟨rfl, s1⟩
        have e1 := he.trans s1
        cases hda : descOk a
        · go_wp2
          go_ret
          exact ⟨_, rfl, by rw [HE.out]; exact (ho.out.ext s1).down eb.size, eb.trans e1⟩
        · have hdb : descOk b = false := by rcases hz with h | h <;> simp_all
          rw [hdb] at CB
          go_wp2_with fail
          refine (CB.out _ (HB.out.ext e1)).mono ?_; rintro _ w2 ⟨rfl, s2⟩
          go_wp2
          go_ret
          exact ⟨_, rfl, by rw [HE.out]; exact ((ho.out.ext s1).ext s2).down eb.size, eb.trans (e1.trans s2)⟩
  have hda : descOk a = true := by cases h : descOk a <;> simp_all
  have hdb : descOk b = true := by cases h : descOk b <;> simp_all
  have HE : Hid (addT a b = addTk a b b.length) := by show _ = _; unfold addT; rw [hda, hdb]; rfl
  have HRF : Hid (∀ j (hj : j < a.length), a[j].kind = 7 → a[j].kids.length = a[j].tags.length + 1) := fun j hj h7 => ((ruleFacts hda j hj).cho h7).1
  have HKI : Hid (∀ j (hj : j < a.length) t (ht : t < a[j].kids.length), a[j].kids[t] = (kd a[j] t : Int)) := fun j hj t ht => kd_int hda j hj t ht
  have HFL : Hid (∀ s, -1 ≤ findR a s ∧ findR a s < a.length ∨ findR a s = -1) := fun s => findR_lt a s
  rw [hda] at CA; rw [hdb] at CB
  clear hz hda hdb
  go_enter Tryd.func9, Tryd.ntmps9
  go_wp2_with fail
  go_loopw [6, 5] (fun i v wr => ∃ k : Nat, k ≤ b.length ∧ i = .int .i64 k ∧ Hid (OwnL vstr 9 W0 wr v (addTk a b k)) ∧ Ext W0 wr) (fun i _ _ => b.length - (intOf i).toNat)
  case atStart => rw [← HW0.out]; exact ⟨0, by omega, rfl, HOE.out, x0⟩
  case round =>
    clear HOE x0
    obtain ⟨k, hk, rfl, ho, he⟩ := hrel
    by_cases hlt : k < b.length
    · obtain ⟨bb, ob, Ab, cb, An, cn, At, ct, Ak, ck, hA', hbb, hSy, hRy⟩ := HB.out.at k hlt
      subst hA'
      have HSU : Hid (addTk a b (k + 1) = addTk a b k ++ addT1 a b[k]) := addTk_succ hlt
      have HLL : Hid ((addTk a b (k + 1)).length ≤ 1048576) := Nat.le_trans (addTk_len a b (k+1)) hL
      obtain ⟨hnm, htl⟩ := nm_le (List.getElem_mem hlt)
      replace hnm := Nat.le_trans hnm hL; replace htl := Nat.le_trans htl hL
      have HWY : Hid (WfR b[k]) := HWB.out b[k] (List.getElem_mem hlt)
      generalize b[k] = y at *
      have b1 : (k : Int) < (b.length : Int) := by omega
      have d0 : decide (k < b.length) = true := decide_eq_true (by omega)
      have hr := hRy.ext he
      have HST := Lib.hid hSy.t
      clear hRy hSy
      go_wp2_with fail
      refine (CA.out _ (HA.out.ext he)).mono ?_; rintro _ w1 ⟨rfl, s1⟩
      have e1 := he.trans s1
      go_wp2_with fail
      refine (CB.out _ (HB.out.ext e1)).mono ?_; rintro _ w2 ⟨rfl, s2⟩
      have e2 := e1.trans s2
      have hr2 := (hr.ext s1).ext s2
      have HO2 := Lib.hid ((ho.out.ext s1).ext s2)
      obtain ⟨l0, l1, l2, l3, l4, l5, l6, l7⟩ := hr2
      have BXR := Lib.hid (Box.new w2 #[.string y.nm, .int .i64 y.kind, .int .i64 y.size, .bool y.little, .slice Ab y.bytes.length cb, .slice An y.names.length cn, .slice At y.tags.length ct, .slice Ak y.kids.length ck] 69)
      have x3 := Ext_alloc (.cells #[.string y.nm, .int .i64 y.kind, .int .i64 y.size, .bool y.little, .slice Ab y.bytes.length cb, .slice An y.names.length cn, .slice At y.tags.length ct, .slice Ak y.kids.length ck] 69) (Ext.refl w2)
      have hbx := fun w' (e : Ext (w2.alloc (.cells #[.string y.nm, .int .i64 y.kind, .int .i64 y.size, .bool y.little, .slice Ab y.bytes.length cb, .slice An y.names.length cn, .slice At y.tags.length ct, .slice Ak y.kids.length ck] 69)) w') => boxed e
      have e3 := e2.trans x3
      have HNE := Lib.hid (HO2.out.far (.inr (Nat.le_refl _)))
      have HO3 := Lib.hid (HO2.out.ext x3)
      clear s1 s2 e1 hr ho he HO2
      go_wp2_with fail
      refine (CF.out _ _ (HA.out.ext e3)).mono ?_; rintro _ w4 ⟨rfl, s4⟩
      have e4 := e3.trans s4
      have HO4 := Lib.hid (HO3.out.ext s4)
      have HB4 := Lib.hid (BXR.out.ext s4)
      have hb4 := HB4.out.cell
      have hfl := HFL.out y.nm
      have HN1 := Lib.hid (fun h => addT1_kind (a := a) (y := y) h); have HN2 := Lib.hid (fun h => addT1_none (a := a) (y := y) h)
      have HN3 := Lib.hid (fun k hf hk h => addT1_other (a := a) (y := y) (k := k) hf hk h); have HN4 := Lib.hid (fun k h7 hf hk h => addT1_some (a := a) (y := y) (k := k) h7 hf hk h)
      have HNX := Lib.hid (fun (h : addT1 a y = []) => own_eq HO4.out (show addTk a b k = addTk a b (k+1) by rw [HSU.out, h, List.append_nil]))
      clear HO3 BXR l0 l1 l2 l3 l4 l5 l6 l7 hbx x3 s4 e3 e2
      obtain ⟨f, hf⟩ : ∃ f, findR a y.nm = f := ⟨_, rfl⟩
      rw [hf] at hfl HN2 HN3 HN4 ⊢
      clear hf
      by_cases h7 : y.kind = 7
      · have k7 : (y.kind != 7) = false := by simpa using h7
        by_cases hf0 : f < 0
        · have HO5 := Lib.hid (HNX.out (HN2.out hf0))
          have d1 : decide (f < 0) = true := by simpa using hf0
          clear HO4 HNX HN1 HN2 HN3 HN4
          go_wp2
          go_roundw
          case rel => exact ⟨k + 1, by omega, by go_num, HO5, e4⟩
          case measure => simp [intOf]; omega
        · obtain ⟨j, rfl⟩ : ∃ j : Nat, f = (j : Int) := ⟨f.toNat, by omega⟩
          have hj : j < a.length := by omega
          obtain ⟨ba, oa, Ax, cx, Bn, cn2, Bt, ct2, Bk, ck2, hAa, hba, hSx, hRx⟩ := HA.out.at j hj
          subst hAa
          have hrx := hRx.ext e4
          have HKX := Lib.hid (HKI.out j hj); have HLX := Lib.hid (HRF.out j hj)
          have HSX := Lib.hid hSx
          have HN3 := Lib.hid (HN3.out j rfl hj); have HN4 := Lib.hid (HN4.out j h7 rfl hj)
          have hjl : (j : Int) < (a.length : Int) := by omega
          generalize a[j] = x at *
          have d1 : decide ((j : Int) < 0) = false := by simp
          by_cases hx7 : ¬ x.kind = 7
          · have HO5 := Lib.hid (HNX.out (HN3.out hx7))
            have kx7 : (x.kind != 7) = true := by simpa using hx7
            obtain ⟨m0, m1, m2, m3, m4, m5, m6, m7⟩ := hrx
            clear HO4 HNX HN1 HN2 HN3 HN4 m0 m2 m3 m4 m5 m6 m7 hRx hSx
            go_wp2
            go_roundw
            case rel => exact ⟨k + 1, by omega, by go_num, HO5, e4⟩
            case measure => simp [intOf]; omega
          · replace hx7 := Classical.not_not.1 hx7
            have kx7 : (x.kind != 7) = false := by simpa using hx7
            have HA1 : Hid (addTk a b k ++ newT x y y.tags.length = addTk a b (k + 1)) := by show _ = _; rw [HSU.out, HN4.out hx7]
            have hkl := HLX.out hx7
            have CI : Hid (∀ (t : Int) w', Ext W0 w' → Gives Tryd.prog 44 #[vrule x (.slice Ax x.bytes.length cx) (.slice Bn x.names.length cn2) (.slice Bt x.tags.length ct2) (.slice Bk x.kids.length ck2), .int .i64 t, .int .i64 0] w' (.int .i64 (if tagN x.tags t < x.tags.length then (kd x (tagN x.tags t + 1) : Int) else -1))) :=
              fun t w' e => sItem_c x Ax cx Bn cn2 Bt ct2 Bk ck2 t w' (HSX.out.ext e) hx7 hkl HKX.out
            have HYT := Lib.hid (fun t (ht : t < y.tags.length) h => newT_yes (x := x) (y := y) ht h)
            have HNT := Lib.hid (fun t (ht : t < y.tags.length) h => newT_no (x := x) (y := y) ht h)
            have HZT : Hid (addTk a b k ++ newT x y 0 = addTk a b k) := by show _ = _; rw [newT_zero, List.append_nil]
            have HLT : Hid (∀ t, (newT x y t).length ≤ t) := fun t => newT_len x y t
            have HLK : Hid ((addTk a b k).length ≤ 1048576) := by show _ ≤ _; have := HLL.out; rw [← HA1.out, List.length_append] at this; omega
            generalize addTk a b k = L0 at *
            obtain ⟨m0, m1, m2, m3, m4, m5, m6, m7⟩ := hRx
            have M : Hid (RuleAt W0 ba (oa + j * 8) x (.slice Ax x.bytes.length cx) (.slice Bn x.names.length cn2) (.slice Bt x.tags.length ct2) (.slice Bk x.kids.length ck2)) := ⟨m0, m1, m2, m3, m4, m5, m6, m7⟩
            have hm1 := m1 _ e4
            clear HNX HN1 HN2 HN3 HN4 HSU hSx hkl hfl hrx m0 m1 m2 m3 m4 m5 m6 m7
            unfold vrule at CI
            have HX7 := Lib.hid hx7; have HY7 := Lib.hid h7
            clear hx7 h7
            go_wp2
            go_loopw [9, 5] (fun ti v wq => ∃ t : Nat, t ≤ y.tags.length ∧ ti = .int .i64 t ∧ Hid (OwnL vstr 9 W0 wq v (L0 ++ newT x y t)) ∧ Hid (v.ownBlock ≠ some w2.heap.size) ∧ Hid (Box wq w2.heap.size #[.string y.nm, .int .i64 y.kind, .int .i64 y.size, .bool y.little, .slice Ab y.bytes.length cb, .slice An y.names.length cn, .slice At y.tags.length ct, .slice Ak y.kids.length ck] 69) ∧ Ext W0 wq ∧ w2.heap.size < wq.heap.size) (fun ti _ _ => y.tags.length - (intOf ti).toNat)
            case atStart => exact ⟨0, by omega, rfl, own_eq HO4.out HZT.out.symm, HNE, HB4, e4, HB4.out.lt⟩
            case round =>
              clear HO4 HZT HNE HB4 hb4 e4 hm1
              obtain ⟨t, ht, rfl, ho, hne, hbx, he, hsz⟩ := hrel
              have hbc := fun w' (e : Ext _ w') => (hbx.out.ext e).cell
              by_cases htl2 : t < y.tags.length
              · obtain ⟨bt, ot, hAt, hbt, hct⟩ := HST.out.at t htl2
                subst hAt
                have HY := Lib.hid (HYT.out t htl2); have HNo := Lib.hid (HNT.out t htl2)
                have CIT := Lib.hid (CI.out y.tags[t])
                have hLq := HLT.out t
                have hL0 := HLK.out
                have b2 : (t : Int) < (y.tags.length : Int) := by omega
                have hwt : -9223372036854775808 ≤ y.tags[t] ∧ y.tags[t] ≤ 9223372036854775807 := i64_of_wf (HWY.out.tags _ (List.getElem_mem htl2))
                generalize y.tags[t] = z at *
                have hs2 := itoa_size z hwt.1 hwt.2
                have CFI : Hid (∀ w', Ext W0 w' → Gives Tryd.prog 45 #[.int .i64 z] w' (.string (itoaB z))) := fun w' e => sFormatInt_c z w' hwt.1 hwt.2
                generalize itoaB z = it at *
                obtain ⟨m0, m1, m2, m3, m4, m5, m6, m7⟩ := M.out
                by_cases hin : tagN x.tags z < x.tags.length
                · have HO5 := Lib.hid (own_eq ho.out (congrArg (fun q => L0 ++ q) (HNo.out hin).symm))
                  rw [if_pos hin] at CIT
                  generalize kd x (tagN x.tags z + 1) = q at *
                  have dq : decide ((q : Int) < 0) = false := by simp
                  clear HY HNo hs2 CFI hin ho
                  go_wp2_with fail
                  refine wp_region_quiet_below (by kernel_rfl) (by kernel_rfl) ?_
                  repeat (go_big_quiet_step ((go_at_call 44; exact Calls.regrown_of (CIT.out _ (by first | assumption | exact Ext_regrown _ _ he)))))
                  refine wpQuiet_nil ?_
                  rintro w5 ⟨⟨nq, osq⟩, hq⟩
                  have ew5 := ext_of_q hq
                  clear hq nq osq
                  have hs5 := ew5.size
                  have HO6 := Lib.hid (HO5.out.ext ew5); have HB6 := Lib.hid (hbx.out.ext ew5)
                  clear HO5 hbc m0 m1 m2 m3 m4 m5 m6 m7
                  go_wp2
                  go_roundw
                  case rel => exact ⟨t + 1, by omega, by go_num, HO6, hne, HB6, he.trans ew5, by omega⟩
                  case measure => simp [intOf]; omega
                · have HEQ : Hid (L0 ++ newT x y t ++ [y.nm ++ ⟨#[58]⟩ ++ it] = L0 ++ newT x y (t + 1)) := by show _ = _; rw [HY.out hin, List.append_assoc]
                  rw [if_neg hin] at CIT
                  have HBD : Hid (((L0 ++ newT x y t).length + [y.nm ++ ⟨#[58]⟩ ++ it].length) * 16 ≤ 140737488355328) := by show _ ≤ _; rw [List.length_append]; simp only [List.length_cons, List.length_nil]; omega
                  have z1 : (⟨#[58]⟩ : ByteArray).size ≤ 1 := by decide
                  have n1 : ¬ 9223372036854775807 < y.nm.size + 1 := by omega
                  have n2 : ¬ 9223372036854775807 < y.nm.size + 1 + it.size := by omega
                  clear HY HNo hin hLq hL0
                  generalize L0 ++ newT x y t = L at *
                  go_wp2_with fail
                  refine wp_region_quiet_below (by kernel_rfl) (by kernel_rfl) ?_
                  repeat (go_big_quiet_step ((go_at_call 44; exact Calls.regrown_of (CIT.out _ (by first | assumption | exact Ext_regrown _ _ he)))))
                  refine wpQuiet_nil ?_
                  rintro w5 ⟨⟨nq, osq⟩, hq⟩
                  have ew5 := ext_of_q hq
                  clear hq nq osq
                  have hs5 := ew5.size
                  have e5 := he.trans ew5
                  have HO5 := Lib.hid (ho.out.ext ew5); have HB5 := Lib.hid (hbx.out.ext ew5)
                  have hd := Ext_drew (Ext.refl w5)
                  have hbc5 := fun w' (e : Ext w5 w') => (HB5.out.ext e).cell
                  have HHD := Lib.hid (HO5.out.ext hd)
                  clear hbc ho hbx CIT m0 m1 m2 m3 m4 m5 m6 m7
                  go_wp2_with fail
                  go_region_law (first
                    | (go_simp; go_at_call 45; refine (CFI.out _ (e5.trans hd)).mono ?_; rintro _ w6 ⟨rfl, s6⟩; have x6 := hd.trans s6; have z6 := e5.trans x6; have HO6 := Lib.hid (HHD.out.ext s6))
                    | (refine step_appNB rfl (.tmp 70) (.tmp 81) _ rfl E_str (by omega) W0 w6 _ vstr (fun _ => rfl) _ rfl 1 1 rfl L [y.nm ++ ⟨#[58]⟩ ++ it] _ rfl rfl HO6.out z6 rfl HBD.out ?_; intro v7 w7 ho7 he7 hg7 hv7; have HO7 := Lib.hid (own_eq ho7 HEQ.out); have HG7 := Lib.hid hg7; have HV7 := Lib.hid hv7; clear ho7 hg7 hv7))
                  all_goals
                    have hs6 := x6.size
                    have hs7 := HG7.out.size
                    rw [World.size_alloc] at hs7
                    have HB7 := Lib.hid (Box.moved ((HB5.out.ext x6).ext (Ext_alloc _ (Ext.refl _))) HG7.out hne.out)
                    have hne7 := Lib.hid (own_ne HV7.out hne.out (show w2.heap.size < (w6.alloc _).heap.size by rw [World.size_alloc]; omega))
                    clear hbc5 HG7 HV7
                    go_wp2
                    go_roundw
                    case rel => exact ⟨t + 1, by omega, by go_num, HO7, hne7, HB7, he7, by omega⟩
                    case measure => simp [intOf]; omega
              · obtain rfl : t = y.tags.length := by omega
                have HO5 := Lib.hid (own_eq ho.out HA1.out)
                have b2 : ¬ (y.tags.length : Int) < (y.tags.length : Int) := by omega
                go_wp2
                go_roundw
                case rel => exact ⟨k + 1, by omega, by go_num, HO5, he⟩
                case measure => simp [intOf]; omega
      · have HO5 := Lib.hid (HNX.out (HN1.out h7))
        have k7 : (y.kind != 7) = true := by simpa using h7
        clear HO4 HNX HN1 HN2 HN3 HN4
        go_wp2
        go_roundw
        case rel => exact ⟨k + 1, by omega, by go_num, HO5, e4⟩
        case measure => simp [intOf]; omega
    · obtain rfl : k = b.length := by omega
      have b1 : ¬ (b.length : Int) < (b.length : Int) := by omega
      go_wp2
      go_ret
      exact ⟨_, rfl, by rw [HE.out]; exact ho.out.down eb.size, eb.trans he⟩
set_option maxRecDepth 100000 in
set_option maxHeartbeats 8000000 in
theorem iAdded_c (A A' : Option Addr) (a b : List DRule) (c c' : Nat) (w : World) (ha : RdD w A a c) (hb : RdD w A' b c') (hsa : ShortD a) (hwa : WfD a) (hsb : ShortD b) (hwb : WfD b) (hL : szD b ≤ 1048576) (hT : Tab w) :
    Calls Tryd.prog 11 #[vdesc (.slice A a.length c), vdesc (.slice A' b.length c')] w fun e w' => ∃ v, e = .returned v ∧ OwnL vstr 9 w w' v (addT a b) ∧ Ext w w' := by
  have hl := ha.len
  have hl' := hb.len
  have hbl : b.length ≤ 1048576 := by unfold szD at hL; omega
  have eb := Ext_alloc (.cells #[.slice A' b.length c'] 30) (Ext_alloc (.cells #[.slice A a.length c] 30) (Ext.refl w))
  have BX := fun w' (e : Ext ((w.alloc (.cells #[.slice A a.length c] 30)).alloc (.cells #[.slice A' b.length c'] 30)) w') => boxed2 e
  have B0 := fun w' e => (BX w' e).1
  have B1 := fun w' e => (BX w' e).2.1
  clear BX
  have CA := Lib.hid (fun w h => iValidDesc_c A a c w h hsa hwa)
  have CB := Lib.hid (fun w h => iValidDesc_c A' b c' w h hsb hwb)
  have CF := Lib.hid (fun s w h => iFind_c A a c s w h)
  unfold vdesc at *
  obtain ⟨W0, hW0⟩ : ∃ W0, W0 = ((w.alloc (.cells #[.slice A a.length c] 30)).alloc (.cells #[.slice A' b.length c'] 30)) := ⟨_, rfl⟩
  rw [← hW0] at eb B0 B1
  have hs0 : W0.heap.size = w.heap.size + 1 + 1 := by rw [hW0]; simp
  have OE := OwnL.empty (f := vstr) (e := 9) (Ext.refl W0)
  rw [hs0] at OE
  have HOE := Lib.hid OE; have HW0 := Lib.hid hW0
  have x0 := Ext_alloc (.cells #[] 9) (Ext.refl W0)
  have HA := Lib.hid (ha.ext eb); have HB := Lib.hid (hb.ext eb)
  have HWA := Lib.hid hwa; have HWB := Lib.hid hwb
  have HT := Lib.hid (hT.ext eb)
  clear OE hW0 hs0 ha hb hwa hwb hsa hsb hT
  by_cases hz : descOk a = false ∨ descOk b = false
  · have HE : Hid (addT a b = []) := by show _ = _; unfold addT; rcases hz with h | h <;> simp [h]
    go_enter Tryd.func11, Tryd.ntmps11
    go_wp2_with fail
    rw [← HW0.out]
    refine (CA.out _ (HA.out.ext x0)).mono ?_; rintro _ w1 ⟨rfl, s1⟩
    have e1 := x0.trans s1
    cases hda : descOk a
    · go_wp2
      go_ret
      exact ⟨_, rfl, by rw [HE.out]; exact (HOE.out.ext s1).down eb.size, eb.trans e1⟩
    · have hdb : descOk b = false := by rcases hz with h | h <;> simp_all
      rw [hdb] at CB
      go_wp2_with fail
      refine (CB.out _ (HB.out.ext e1)).mono ?_; rintro _ w2 ⟨rfl, s2⟩
      go_wp2
      go_ret
      exact ⟨_, rfl, by rw [HE.out]; exact ((HOE.out.ext s1).ext s2).down eb.size, eb.trans (e1.trans s2)⟩
  have hda : descOk a = true := by cases h : descOk a <;> simp_all
  have hdb : descOk b = true := by cases h : descOk b <;> simp_all
  have HE : Hid (addT a b = addTk a b b.length) := by show _ = _; unfold addT; rw [hda, hdb]; rfl
  have HRF : Hid (∀ j (hj : j < a.length), a[j].kind = 7 → a[j].kids.length = a[j].tags.length + 1) := fun j hj h7 => ((ruleFacts hda j hj).cho h7).1
  have HKI : Hid (∀ j (hj : j < a.length) t (ht : t < a[j].kids.length), a[j].kids[t] = (kd a[j] t : Int)) := fun j hj t ht => kd_int hda j hj t ht
  have HFL : Hid (∀ s, -1 ≤ findR a s ∧ findR a s < a.length ∨ findR a s = -1) := fun s => findR_lt a s
  rw [hda] at CA; rw [hdb] at CB
  clear hz hda hdb
  go_enter Tryd.func11, Tryd.ntmps11
  go_wp2_with fail
  rw [← HW0.out]
  refine (CA.out _ (HA.out.ext x0)).mono ?_; rintro _ w1 ⟨rfl, s1⟩
  have e1 := x0.trans s1
  go_wp2_with fail
  refine (CB.out _ (HB.out.ext e1)).mono ?_; rintro _ w2 ⟨rfl, s2⟩
  have e2 := e1.trans s2
  have HO2 := Lib.hid ((HOE.out.ext s1).ext s2)
  clear HOE s1 s2 e1 x0 CA CB
  go_wp2
  go_loopw [24, 5] (fun i v wr => ∃ k : Nat, k ≤ b.length ∧ i = .int .i64 k ∧ Hid (OwnL vstr 9 W0 wr v (addTk a b k)) ∧ Ext W0 wr) (fun i _ _ => b.length - (intOf i).toNat)
  case atStart => exact ⟨0, by omega, rfl, HO2.out, e2⟩
  case round =>
    clear HO2 e2
    obtain ⟨k, hk, rfl, ho, he⟩ := hrel
    by_cases hlt : k < b.length
    · obtain ⟨bb, ob, Ab, cb, An, cn, At, ct, Ak, ck, hA', hbb, hSy, hRy⟩ := HB.out.at k hlt
      subst hA'
      have HSU : Hid (addTk a b (k + 1) = addTk a b k ++ addT1 a b[k]) := addTk_succ hlt
      have HLL : Hid ((addTk a b (k + 1)).length ≤ 1048576) := Nat.le_trans (addTk_len a b (k+1)) hL
      obtain ⟨hnm, htl⟩ := nm_le (List.getElem_mem hlt)
      replace hnm := Nat.le_trans hnm hL; replace htl := Nat.le_trans htl hL
      have HWY : Hid (WfR b[k]) := HWB.out b[k] (List.getElem_mem hlt)
      generalize b[k] = y at *
      have b1 : (k : Int) < (b.length : Int) := by omega
      have d0 : decide (k < b.length) = true := decide_eq_true (by omega)
      have hr := hRy.ext he
      have HST := Lib.hid hSy.t
      clear hRy hSy
      have e2 := he
      have hr2 := hr
      have HO2 := ho
      obtain ⟨w2, hw2⟩ : ∃ w2, w2 = wr := ⟨_, rfl⟩
      rw [← hw2] at e2 hr2 HO2
      rw [← hw2]
      clear he hr ho hw2
      obtain ⟨l0, l1, l2, l3, l4, l5, l6, l7⟩ := hr2
      have BXR := Lib.hid (Box.new w2 #[.string y.nm, .int .i64 y.kind, .int .i64 y.size, .bool y.little, .slice Ab y.bytes.length cb, .slice An y.names.length cn, .slice At y.tags.length ct, .slice Ak y.kids.length ck] 69)
      have x3 := Ext_alloc (.cells #[.string y.nm, .int .i64 y.kind, .int .i64 y.size, .bool y.little, .slice Ab y.bytes.length cb, .slice An y.names.length cn, .slice At y.tags.length ct, .slice Ak y.kids.length ck] 69) (Ext.refl w2)
      have hbx := fun w' (e : Ext (w2.alloc (.cells #[.string y.nm, .int .i64 y.kind, .int .i64 y.size, .bool y.little, .slice Ab y.bytes.length cb, .slice An y.names.length cn, .slice At y.tags.length ct, .slice Ak y.kids.length ck] 69)) w') => boxed e
      have e3 := e2.trans x3
      have HNE := Lib.hid (HO2.out.far (.inr (Nat.le_refl _)))
      have HO3 := Lib.hid (HO2.out.ext x3)
      clear  HO2
      go_wp2_with fail
      refine (CF.out _ _ (HA.out.ext e3)).mono ?_; rintro _ w4 ⟨rfl, s4⟩
      have e4 := e3.trans s4
      have HO4 := Lib.hid (HO3.out.ext s4)
      have HB4 := Lib.hid (BXR.out.ext s4)
      have hb4 := HB4.out.cell
      have hfl := HFL.out y.nm
      have HN1 := Lib.hid (fun h => addT1_kind (a := a) (y := y) h); have HN2 := Lib.hid (fun h => addT1_none (a := a) (y := y) h)
      have HN3 := Lib.hid (fun k hf hk h => addT1_other (a := a) (y := y) (k := k) hf hk h); have HN4 := Lib.hid (fun k h7 hf hk h => addT1_some (a := a) (y := y) (k := k) h7 hf hk h)
      have HNX := Lib.hid (fun (h : addT1 a y = []) => own_eq HO4.out (show addTk a b k = addTk a b (k+1) by rw [HSU.out, h, List.append_nil]))
      clear HO3 BXR l0 l1 l2 l3 l4 l5 l6 l7 hbx x3 s4 e3 e2
      obtain ⟨f, hf⟩ : ∃ f, findR a y.nm = f := ⟨_, rfl⟩
      rw [hf] at hfl HN2 HN3 HN4 ⊢
      clear hf
      by_cases h7 : y.kind = 7
      · have k7 : (y.kind != 7) = false := by simpa using h7
        by_cases hf0 : f < 0
        · have HO5 := Lib.hid (HNX.out (HN2.out hf0))
          have d1 : decide (f < 0) = true := by simpa using hf0
          clear HO4 HNX HN1 HN2 HN3 HN4
          go_wp2
          go_roundw
          case rel => exact ⟨k + 1, by omega, by go_num, HO5, e4⟩
          case measure => simp [intOf]; omega
        · obtain ⟨j, rfl⟩ : ∃ j : Nat, f = (j : Int) := ⟨f.toNat, by omega⟩
          have hj : j < a.length := by omega
          obtain ⟨ba, oa, Ax, cx, Bn, cn2, Bt, ct2, Bk, ck2, hAa, hba, hSx, hRx⟩ := HA.out.at j hj
          subst hAa
          have hrx := hRx.ext e4
          have HKX := Lib.hid (HKI.out j hj); have HLX := Lib.hid (HRF.out j hj)
          have HSX := Lib.hid hSx
          have HN3 := Lib.hid (HN3.out j rfl hj); have HN4 := Lib.hid (HN4.out j h7 rfl hj)
          have hjl : (j : Int) < (a.length : Int) := by omega
          generalize a[j] = x at *
          have d1 : decide ((j : Int) < 0) = false := by simp
          by_cases hx7 : ¬ x.kind = 7
          · have HO5 := Lib.hid (HNX.out (HN3.out hx7))
            have kx7 : (x.kind != 7) = true := by simpa using hx7
            obtain ⟨m0, m1, m2, m3, m4, m5, m6, m7⟩ := hrx
            clear HO4 HNX HN1 HN2 HN3 HN4 m0 m2 m3 m4 m5 m6 m7 hRx hSx
            go_wp2
            go_roundw
            case rel => exact ⟨k + 1, by omega, by go_num, HO5, e4⟩
            case measure => simp [intOf]; omega
          · replace hx7 := Classical.not_not.1 hx7
            have kx7 : (x.kind != 7) = false := by simpa using hx7
            have HA1 : Hid (addTk a b k ++ newT x y y.tags.length = addTk a b (k + 1)) := by show _ = _; rw [HSU.out, HN4.out hx7]
            have hkl := HLX.out hx7
            have CI : Hid (∀ (t : Int) w', Ext W0 w' → Gives Tryd.prog 49 #[vrule x (.slice Ax x.bytes.length cx) (.slice Bn x.names.length cn2) (.slice Bt x.tags.length ct2) (.slice Bk x.kids.length ck2), .int .i64 t] w' (.int .i64 (tagI x.tags t))) :=
              fun t w' e => iTagIx_c x Ax cx Bn cn2 Bt ct2 Bk ck2 t w' (HSX.out.ext e)
            have HYT := Lib.hid (fun t (ht : t < y.tags.length) h => newT_yes (x := x) (y := y) ht h)
            have HNT := Lib.hid (fun t (ht : t < y.tags.length) h => newT_no (x := x) (y := y) ht h)
            have HZT : Hid (addTk a b k ++ newT x y 0 = addTk a b k) := by show _ = _; rw [newT_zero, List.append_nil]
            have HLT : Hid (∀ t, (newT x y t).length ≤ t) := fun t => newT_len x y t
            have HLK : Hid ((addTk a b k).length ≤ 1048576) := by show _ ≤ _; have := HLL.out; rw [← HA1.out, List.length_append] at this; omega
            generalize addTk a b k = L0 at *
            obtain ⟨m0, m1, m2, m3, m4, m5, m6, m7⟩ := hRx
            have M : Hid (RuleAt W0 ba (oa + j * 8) x (.slice Ax x.bytes.length cx) (.slice Bn x.names.length cn2) (.slice Bt x.tags.length ct2) (.slice Bk x.kids.length ck2)) := ⟨m0, m1, m2, m3, m4, m5, m6, m7⟩
            have hm1 := m1 _ e4
            clear HNX HN1 HN2 HN3 HN4 HSU hSx hkl hfl hrx m0 m1 m2 m3 m4 m5 m6 m7
            unfold vrule at CI
            have HX7 := Lib.hid hx7; have HY7 := Lib.hid h7
            clear hx7 h7
            go_wp2
            go_loopw [51, 5] (fun ti v wq => ∃ t : Nat, t ≤ y.tags.length ∧ ti = .int .i64 t ∧ Hid (OwnL vstr 9 W0 wq v (L0 ++ newT x y t)) ∧ Hid (v.ownBlock ≠ some w2.heap.size) ∧ Hid (Box wq w2.heap.size #[.string y.nm, .int .i64 y.kind, .int .i64 y.size, .bool y.little, .slice Ab y.bytes.length cb, .slice An y.names.length cn, .slice At y.tags.length ct, .slice Ak y.kids.length ck] 69) ∧ Ext W0 wq ∧ w2.heap.size < wq.heap.size) (fun ti _ _ => y.tags.length - (intOf ti).toNat)
            case atStart => exact ⟨0, by omega, rfl, own_eq HO4.out HZT.out.symm, HNE, HB4, e4, HB4.out.lt⟩
            case round =>
              clear HO4 HZT HNE HB4 hb4 e4 hm1
              obtain ⟨t, ht, rfl, ho, hne, hbx, he, hsz⟩ := hrel
              have hbc := fun w' (e : Ext _ w') => (hbx.out.ext e).cell
              by_cases htl2 : t < y.tags.length
              · obtain ⟨bt, ot, hAt, hbt, hct⟩ := HST.out.at t htl2
                subst hAt
                have HY := Lib.hid (HYT.out t htl2); have HNo := Lib.hid (HNT.out t htl2)
                have CIT := Lib.hid (CI.out y.tags[t])
                have hLq := HLT.out t
                have hL0 := HLK.out
                have b2 : (t : Int) < (y.tags.length : Int) := by omega
                have hwt : -9223372036854775808 ≤ y.tags[t] ∧ y.tags[t] ≤ 9223372036854775807 := i64_of_wf (HWY.out.tags _ (List.getElem_mem htl2))
                generalize y.tags[t] = z at *
                have hs2 := itoa_size z hwt.1 hwt.2
                have CFI : Hid (∀ w', Ext W0 w' → Gives Tryd.prog 50 #[.int .i64 z] w' (.string (itoaB z))) := fun w' e => iFormatInt_c z w' (HT.out.ext e) hwt.1 hwt.2
                generalize itoaB z = it at *
                obtain ⟨m0, m1, m2, m3, m4, m5, m6, m7⟩ := M.out
                by_cases hin : tagN x.tags z < x.tags.length
                · have HO5 := Lib.hid (own_eq ho.out (congrArg (fun q => L0 ++ q) (HNo.out hin).symm))
                  unfold tagI at CIT; rw [if_pos hin] at CIT
                  generalize tagN x.tags z = q at *
                  have dq : decide ((q : Int) < 0) = false := by simp
                  clear HY HNo hs2 CFI hin ho
                  go_wp2_with fail
                  refine (CIT.out _ he).mono ?_; rintro _ w5 ⟨rfl, ew5⟩
                  have hs5 := ew5.size
                  have HO6 := Lib.hid (HO5.out.ext ew5); have HB6 := Lib.hid (hbx.out.ext ew5)
                  clear HO5 hbc m0 m1 m2 m3 m4 m5 m6 m7
                  go_wp2
                  go_roundw
                  case rel => exact ⟨t + 1, by omega, by go_num, HO6, hne, HB6, he.trans ew5, by omega⟩
                  case measure => simp [intOf]; omega
                · have HEQ : Hid (L0 ++ newT x y t ++ [y.nm ++ ⟨#[58]⟩ ++ it] = L0 ++ newT x y (t + 1)) := by show _ = _; rw [HY.out hin, List.append_assoc]
                  unfold tagI at CIT; rw [if_neg hin] at CIT
                  have HBD : Hid (((L0 ++ newT x y t).length + [y.nm ++ ⟨#[58]⟩ ++ it].length) * 16 ≤ 140737488355328) := by show _ ≤ _; rw [List.length_append]; simp only [List.length_cons, List.length_nil]; omega
                  have z1 : (⟨#[58]⟩ : ByteArray).size ≤ 1 := by decide
                  have n1 : ¬ 9223372036854775807 < y.nm.size + 1 := by omega
                  have n2 : ¬ 9223372036854775807 < y.nm.size + 1 + it.size := by omega
                  clear HY HNo hin hLq hL0
                  generalize L0 ++ newT x y t = L at *
                  go_wp2_with fail
                  refine (CIT.out _ he).mono ?_; rintro _ w5 ⟨rfl, ew5⟩
                  have hs5 := ew5.size
                  have e5 := he.trans ew5
                  have HO5 := Lib.hid (ho.out.ext ew5); have HB5 := Lib.hid (hbx.out.ext ew5)
                  have hd := Ext_drew (Ext.refl w5)
                  have hbc5 := fun w' (e : Ext w5 w') => (HB5.out.ext e).cell
                  have HHD := Lib.hid (HO5.out.ext hd)
                  clear hbc ho hbx CIT m0 m1 m2 m3 m4 m5 m6 m7
                  go_wp2_with fail
                  go_region_law (first
                    | (go_simp; go_at_call 50; refine (CFI.out _ (e5.trans hd)).mono ?_; rintro _ w6 ⟨rfl, s6⟩; have x6 := hd.trans s6; have z6 := e5.trans x6; have HO6 := Lib.hid (HHD.out.ext s6))
                    | (refine step_appNB rfl (.tmp 63) (.tmp 70) _ rfl E_str (by omega) W0 w6 _ vstr (fun _ => rfl) _ rfl 1 1 rfl L [y.nm ++ ⟨#[58]⟩ ++ it] _ rfl rfl HO6.out z6 rfl HBD.out ?_; intro v7 w7 ho7 he7 hg7 hv7; have HO7 := Lib.hid (own_eq ho7 HEQ.out); have HG7 := Lib.hid hg7; have HV7 := Lib.hid hv7; clear ho7 hg7 hv7))
                  all_goals
                    have hs6 := x6.size
                    have hs7 := HG7.out.size
                    rw [World.size_alloc] at hs7
                    have HB7 := Lib.hid (Box.moved ((HB5.out.ext x6).ext (Ext_alloc _ (Ext.refl _))) HG7.out hne.out)
                    have hne7 := Lib.hid (own_ne HV7.out hne.out (show w2.heap.size < (w6.alloc _).heap.size by rw [World.size_alloc]; omega))
                    clear hbc5 HG7 HV7
                    go_wp2
                    go_roundw
                    case rel => exact ⟨t + 1, by omega, by go_num, HO7, hne7, HB7, he7, by omega⟩
                    case measure => simp [intOf]; omega
              · obtain rfl : t = y.tags.length := by omega
                have HO5 := Lib.hid (own_eq ho.out HA1.out)
                have b2 : ¬ (y.tags.length : Int) < (y.tags.length : Int) := by omega
                go_wp2
                go_roundw
                case rel => exact ⟨k + 1, by omega, by go_num, HO5, he⟩
                case measure => simp [intOf]; omega
      · have HO5 := Lib.hid (HNX.out (HN1.out h7))
        have k7 : (y.kind != 7) = true := by simpa using h7
        clear HO4 HNX HN1 HN2 HN3 HN4
        go_wp2
        go_roundw
        case rel => exact ⟨k + 1, by omega, by go_num, HO5, e4⟩
        case measure => simp [intOf]; omega
    · obtain rfl : k = b.length := by omega
      have b1 : ¬ (b.length : Int) < (b.length : Int) := by omega
      go_wp2
      go_ret
      exact ⟨_, rfl, by rw [HE.out]; exact ho.out.down eb.size, eb.trans he⟩
end Go.Proofs.YtdbbdoldndnbhaaDoor

/- The walk of the law on AddedTags. -/
namespace Go.Proofs.YtdbbdoldndnbhaaDoor
open Go.RowKit Go.Sort

set_option maxRecDepth 100000 in
set_option maxHeartbeats 8000000 in
theorem lawAddedTags_c (A0 : Option Addr) (ds0 : List DRule) (c0 : Nat) (A1 : Option Addr) (ds1 : List DRule) (c1 : Nat) (w : World) (h0 : RdD w A0 ds0 c0) (hw0 : WfD ds0) (h1 : RdD w A1 ds1 c1) (hw1 : WfD ds1) (hT : Tab w) :
    Gives Tryd.prog 3 #[vdesc (.slice A0 ds0.length c0), vdesc (.slice A1 ds1.length c1)] w (.bool true) := by
  have HT := Lib.hid hT; clear hT
  have eb := (Ext_alloc (.cells #[.slice A1 ds1.length c1] 24) (Ext_alloc (.cells #[.slice A0 ds0.length c0] 24) (Ext.refl w)))
  have BX := fun w' (e : Ext ((w.alloc (.cells #[.slice A0 ds0.length c0] 24)).alloc (.cells #[.slice A1 ds1.length c1] 24)) w') => boxed2 e
  have B0 := fun w' e => (BX w' e).1; have B1 := fun w' e => (BX w' e).2.1; clear BX
  have Z0 := Lib.hid (fun left w h h0 h1 => szDescription_c A0 ds0 c0 left w h hw0 h0 h1)
  have T0 := Lib.hid (fun w h hz => toDesc_r A0 ds0 c0 w h hz); have TO0 := Lib.hid (fun w h hz => toDesc_o A0 ds0 c0 w h hz)
  have Z1 := Lib.hid (fun left w h h0 h1 => szDescription_c A1 ds1 c1 left w h hw1 h0 h1)
  have T1 := Lib.hid (fun w h hz => toDesc_r A1 ds1 c1 w h hz); have TO1 := Lib.hid (fun w h hz => toDesc_o A1 ds1 c1 w h hz)
  have hz0 := szN_lo (szD ds0) (1048576)
  have hs0 : ¬ szN (szD ds0) (1048576) < 0 → (1048576 : Int) ≤ 1048576 → szD ds0 ≤ 1048576 := fun a b => szN_small a b
  generalize hzz0 : szN (szD ds0) (1048576) = z0 at *
  have HZ0 := Lib.hid hzz0; clear hzz0
  have hz1 := szN_lo (szD ds1) (z0)
  have hs1 : ¬ szN (szD ds1) (z0) < 0 → (z0 : Int) ≤ 1048576 → szD ds1 ≤ 1048576 := fun a b => szN_small a b
  generalize hzz1 : szN (szD ds1) (z0) = z1 at *
  have HZ1 := Lib.hid hzz1; clear hzz1
  unfold vdesc at *
  go_enter Tryd.func3, Tryd.ntmps3
  go_wp2_with fail
  refine (Z0.out _ _ (h0.ext eb) (by omega) (by omega)).mono ?_; rintro _ w1 ⟨rfl, s1⟩
  rw [HZ0.out]
  replace B0 := fun w' (e : Ext _ w') => B0 w' (Ext.trans s1 e)
  replace B1 := fun w' (e : Ext _ w') => B1 w' (Ext.trans s1 e)
  replace eb := eb.trans s1; clear s1
  by_cases d0 : z0 < 0
  · go_wp2
    go_ret
    exact ⟨rfl, eb⟩
  have hl0 := hs0 (by omega) (by omega)
  go_wp2_with fail
  refine (Z1.out _ _ (h1.ext eb) (by omega) (by omega)).mono ?_; rintro _ w2 ⟨rfl, s2⟩
  rw [HZ1.out]
  replace B0 := fun w' (e : Ext _ w') => B0 w' (Ext.trans s2 e)
  replace B1 := fun w' (e : Ext _ w') => B1 w' (Ext.trans s2 e)
  replace eb := eb.trans s2; clear s2
  by_cases d1 : z1 < 0
  · go_wp2
    go_ret
    exact ⟨rfl, eb⟩
  have hl1 := hs1 (by omega) (by omega)
  have U0 := Lib.hid (fun w h => T0.out w h hl0); clear T0; have UO0 := Lib.hid (fun w h => TO0.out w h hl0); clear TO0; have SH0 := Lib.hid hl0; have SD0 := Lib.hid (shortD_of hl0)
  have U1 := Lib.hid (fun w h => T1.out w h hl1); clear T1; have UO1 := Lib.hid (fun w h => TO1.out w h hl1); clear TO1; have SH1 := Lib.hid hl1; have SD1 := Lib.hid (shortD_of hl1)
  have LR : (addT ds0 ds1).length ≤ 1048576 := addT_len hl1
  clear hz0 hs0 hl0 hz1 hs1 hl1
  go_wp2_with fail
  go_region_held3 (fun w' => Ext w2 w') (first | assumption | exact Ext_drew (Ext.refl _) | exact Ext.trans (by assumption) (by assumption)) (first
    | (go_at_call 10; (with_reducible refine (U0.out _ ?_).mono ?_); (exact h0.ext (eb.trans (by assumption))); rintro _ ws0 ⟨XA0, Xc0, rfl, r0, ss0⟩)
    | (go_at_call 10; (with_reducible refine (U1.out _ ?_).mono ?_); (exact h1.ext (eb.trans (by assumption))); rintro _ ws1 ⟨XA1, Xc1, rfl, r1, ss1⟩)
    | (go_at_call 9; refine (sAdded_c _ _ _ _ _ _ _ (r0.ext ss1) r1 SD0.out hw0 SD1.out hw1 SH1.out).mono ?_; rintro _ ws ⟨vs, rfl, os, ss⟩; obtain ⟨As, cs, rfl, qs⟩ := OwnL.rd os (by omega)))
  have ts : Ext w2 ws := by assumption
  clear r0 r1 ss0 ss1 ss os
  replace B0 := fun w' (e : Ext _ w') => B0 w' (Ext.trans ts e)
  replace B1 := fun w' (e : Ext _ w') => B1 w' (Ext.trans ts e)
  replace eb := eb.trans ts; clear ts
  have EB := Lib.hid eb; have QS := Lib.hid qs
  have CB0 := Lib.hid B0
  have CB1 := Lib.hid B1
  have E0 := Ext.refl ws
  go_wp2_with fail
  refine (UO0.out _ (h0.ext eb)).mono ?_; rintro _ wx0 ⟨PA0, Pc0, ps0, rfl, rx0, hp0, dm0, sx0⟩
  have hlo0 := Lib.hid E0.size; have hhi0 := Lib.hid sx0.size; have hp0 := Lib.hid hp0
  replace B0 := fun w' (e : Ext _ w') => B0 w' (Ext.trans sx0 e)
  replace B1 := fun w' (e : Ext _ w') => B1 w' (Ext.trans sx0 e)
  replace qs := qs.ext sx0
  replace eb := eb.trans sx0; replace E0 := E0.trans sx0; clear sx0
  have BX0 := fun w' (e : Ext (wx0.alloc (.cells #[.slice PA0 ds0.length Pc0] 30)) w') => boxed e
  have tx0 := Ext_alloc (.cells #[.slice PA0 ds0.length Pc0] 30) (Ext.refl wx0)
  have bx0 := Box.new wx0 #[.slice PA0 ds0.length Pc0] 30
  replace dm0 := dm0.ext tx0
  have hal0 : (wx0.alloc (.cells #[.slice PA0 ds0.length Pc0] 30)).heap.size = wx0.heap.size + 1 := by simp
  have hal0 := Lib.hid hal0
  replace B0 := fun w' (e : Ext _ w') => B0 w' (Ext.trans tx0 e)
  replace B1 := fun w' (e : Ext _ w') => B1 w' (Ext.trans tx0 e)
  replace qs := qs.ext tx0
  replace rx0 := rx0.ext tx0
  replace eb := eb.trans tx0; replace E0 := E0.trans tx0; clear tx0
  go_wp2_with fail
  refine (UO1.out _ (h1.ext eb)).mono ?_; rintro _ wx1 ⟨PA1, Pc1, ps1, rfl, rx1, hp1, dm1, sx1⟩
  have hlo1 := Lib.hid E0.size; have hhi1 := Lib.hid sx1.size; have hp1 := Lib.hid hp1
  replace dm0 := dm0.ext sx1; replace bx0 := bx0.ext sx1
  replace B0 := fun w' (e : Ext _ w') => B0 w' (Ext.trans sx1 e)
  replace B1 := fun w' (e : Ext _ w') => B1 w' (Ext.trans sx1 e)
  replace BX0 := fun w' (e : Ext _ w') => BX0 w' (Ext.trans sx1 e)
  replace qs := qs.ext sx1
  replace rx0 := rx0.ext sx1
  replace eb := eb.trans sx1; replace E0 := E0.trans sx1; clear sx1
  have BX1 := fun w' (e : Ext (wx1.alloc (.cells #[.slice PA1 ds1.length Pc1] 30)) w') => boxed e
  have tx1 := Ext_alloc (.cells #[.slice PA1 ds1.length Pc1] 30) (Ext.refl wx1)
  have bx1 := Box.new wx1 #[.slice PA1 ds1.length Pc1] 30
  replace dm1 := dm1.ext tx1
  have hal1 : (wx1.alloc (.cells #[.slice PA1 ds1.length Pc1] 30)).heap.size = wx1.heap.size + 1 := by simp
  have hal1 := Lib.hid hal1
  replace dm0 := dm0.ext tx1; replace bx0 := bx0.ext tx1
  replace B0 := fun w' (e : Ext _ w') => B0 w' (Ext.trans tx1 e)
  replace B1 := fun w' (e : Ext _ w') => B1 w' (Ext.trans tx1 e)
  replace BX0 := fun w' (e : Ext _ w') => BX0 w' (Ext.trans tx1 e)
  replace qs := qs.ext tx1
  replace rx0 := rx0.ext tx1
  replace rx1 := rx1.ext tx1
  replace eb := eb.trans tx1; replace E0 := E0.trans tx1; clear tx1
  go_wp2_with fail
  have hgl : (wx1.alloc (.cells #[.slice PA1 ds1.length Pc1] 30)).heap.size ≤ (wx1.alloc (.cells #[.slice PA1 ds1.length Pc1] 30)).heap.size := Nat.le_refl _
  have hgl := Lib.hid hgl
  refine (iAdded_c _ _ _ _ _ _ _ rx0 rx1 SD0.out hw0 SD1.out hw1 SH1.out (HT.out.ext (by first | exact eb | exact eb.trans (by assumption)))).mono ?_; rintro _ wg ⟨vg, rfl, og, sg⟩; obtain ⟨Ag, cg, rfl, qg⟩ := OwnL.rd og (by omega)
  replace dm0 := dm0.ext sg; replace bx0 := bx0.ext sg
  replace dm1 := dm1.ext sg; replace bx1 := bx1.ext sg
  replace B0 := fun w' (e : Ext _ w') => B0 w' (Ext.trans sg e)
  replace B1 := fun w' (e : Ext _ w') => B1 w' (Ext.trans sg e)
  replace BX0 := fun w' (e : Ext _ w') => BX0 w' (Ext.trans sg e)
  replace BX1 := fun w' (e : Ext _ w') => BX1 w' (Ext.trans sg e)
  replace qs := qs.ext sg
  replace rx0 := rx0.ext sg
  replace rx1 := rx1.ext sg
  replace eb := eb.trans sg; replace E0 := E0.trans sg; clear sg
  have HRR : Hid (eqNms (addT ds0 ds1) (addT ds0 ds1) = true) := eqNms_refl _
  generalize hRR : (addT ds0 ds1) = R at *
  have HRE := Lib.hid hRR; clear hRR
  go_wp2_with fail
  refine (eqStringS_c _ _ _ _ _ _ _ qg.1 qs.1).mono ?_; rintro _ we ⟨rfl, se⟩; rw [HRR.out]
  replace og := og.ext se
  replace dm0 := dm0.ext se; replace bx0 := bx0.ext se
  replace dm1 := dm1.ext se; replace bx1 := bx1.ext se
  replace B0 := fun w' (e : Ext _ w') => B0 w' (Ext.trans se e)
  replace B1 := fun w' (e : Ext _ w') => B1 w' (Ext.trans se e)
  replace BX0 := fun w' (e : Ext _ w') => BX0 w' (Ext.trans se e)
  replace BX1 := fun w' (e : Ext _ w') => BX1 w' (Ext.trans se e)
  replace qs := qs.ext se
  replace rx0 := rx0.ext se
  replace rx1 := rx1.ext se
  replace qg := qg.ext se
  replace eb := eb.trans se; replace E0 := E0.trans se; clear se
  have HE0 : Hid (eqD ds0 ds0 = true) := eqD_refl ds0
  go_wp2_with fail
  go_region_held3 (fun w' => Ext we w') (first | assumption | exact Ext_drew (Ext.refl _) | exact Ext.trans (by assumption) (by assumption)) (first
    | (go_at_call 10; refine (U0.out _ (h0.ext (eb.trans (by assumption)))).mono ?_; rintro _ w10 ⟨XA0, Xc0, rfl, r0, s10⟩)
    | (go_at_call 13; refine (eqDescription_c _ _ _ _ _ _ _ (rx0.ext (by assumption)) r0 SD0.out SD0.out).mono ?_; rintro _ wf0 ⟨rfl, s20⟩; rw [HE0.out]))
  have sf0 : Ext we wf0 := by assumption
  clear r0 s10 s20
  replace og := og.ext sf0
  replace dm0 := dm0.ext sf0; replace bx0 := bx0.ext sf0
  replace dm1 := dm1.ext sf0; replace bx1 := bx1.ext sf0
  replace B0 := fun w' (e : Ext _ w') => B0 w' (Ext.trans sf0 e)
  replace B1 := fun w' (e : Ext _ w') => B1 w' (Ext.trans sf0 e)
  replace BX0 := fun w' (e : Ext _ w') => BX0 w' (Ext.trans sf0 e)
  replace BX1 := fun w' (e : Ext _ w') => BX1 w' (Ext.trans sf0 e)
  replace qs := qs.ext sf0
  replace rx0 := rx0.ext sf0
  replace rx1 := rx1.ext sf0
  replace qg := qg.ext sf0
  replace eb := eb.trans sf0; replace E0 := E0.trans sf0; clear sf0
  have HE1 : Hid (eqD ds1 ds1 = true) := eqD_refl ds1
  go_wp2_with fail
  go_region_held3 (fun w' => Ext wf0 w') (first | assumption | exact Ext_drew (Ext.refl _) | exact Ext.trans (by assumption) (by assumption)) (first
    | (go_at_call 10; refine (U1.out _ (h1.ext (eb.trans (by assumption)))).mono ?_; rintro _ w11 ⟨XA1, Xc1, rfl, r1, s11⟩)
    | (go_at_call 13; refine (eqDescription_c _ _ _ _ _ _ _ (rx1.ext (by assumption)) r1 SD1.out SD1.out).mono ?_; rintro _ wf1 ⟨rfl, s21⟩; rw [HE1.out]))
  have sf1 : Ext wf0 wf1 := by assumption
  clear r1 s11 s21
  replace og := og.ext sf1
  replace dm0 := dm0.ext sf1; replace bx0 := bx0.ext sf1
  replace dm1 := dm1.ext sf1; replace bx1 := bx1.ext sf1
  replace B0 := fun w' (e : Ext _ w') => B0 w' (Ext.trans sf1 e)
  replace B1 := fun w' (e : Ext _ w') => B1 w' (Ext.trans sf1 e)
  replace BX0 := fun w' (e : Ext _ w') => BX0 w' (Ext.trans sf1 e)
  replace BX1 := fun w' (e : Ext _ w') => BX1 w' (Ext.trans sf1 e)
  replace qs := qs.ext sf1
  replace rx0 := rx0.ext sf1
  replace rx1 := rx1.ext sf1
  replace qg := qg.ext sf1
  replace eb := eb.trans sf1; replace E0 := E0.trans sf1; clear sf1
  clear BX0 BX1 B0 B1 qs qg rx0 rx1 eb
  have z00 := (bx0.cell 0)
  simp only [List.getElem?_toArray, List.getElem?_cons_zero] at z00
  go_wp2_with fail
  refine (markDesc_c _ _ _ ps0 1 _ _ _ dm0 (by rw [hp0.out]; exact SH0.out) (by omega) (by omega)).mono ?_; rintro _ wm0 ⟨k0, hk0a, hk0b, rfl, hm0⟩
  replace dm1 := dm1.wrote hm0 (.inr (by have := hlo0.out; have := hhi0.out; have := hal0.out; have := hlo1.out; have := hhi1.out; have := hal1.out; have := hgl.out; omega))
  replace bx1 := bx1.wrote hm0 (by have := hlo0.out; have := hhi0.out; have := hal0.out; have := hlo1.out; have := hhi1.out; have := hal1.out; have := hgl.out; omega)
  replace og := og.behind hm0 (by have := hlo0.out; have := hhi0.out; have := hal0.out; have := hlo1.out; have := hhi1.out; have := hal1.out; have := hgl.out; omega)
  replace E0 := hm0.below E0 (by have := hlo0.out; have := hhi0.out; have := hal0.out; have := hlo1.out; have := hhi1.out; have := hal1.out; have := hgl.out; omega)
  clear z00 hm0 dm0
  have z10 := (bx1.cell 0)
  simp only [List.getElem?_toArray, List.getElem?_cons_zero] at z10
  go_wp2_with fail
  refine (markDesc_c _ _ _ ps1 k0 _ _ _ dm1 (by rw [hp1.out]; exact SH1.out) (by omega) (by omega)).mono ?_; rintro _ wm1 ⟨k1, hk1a, hk1b, rfl, hm1⟩
  replace og := og.behind hm1 (by have := hlo0.out; have := hhi0.out; have := hal0.out; have := hlo1.out; have := hhi1.out; have := hal1.out; have := hgl.out; omega)
  replace E0 := hm1.below E0 (by have := hlo0.out; have := hhi0.out; have := hal0.out; have := hlo1.out; have := hhi1.out; have := hal1.out; have := hgl.out; omega)
  clear z10 hm1 dm1
  obtain ⟨_, _, hvg, qg⟩ := OwnL.rd og (by omega); injection hvg with q1 _ q2; subst q1; subst q2
  have qs := QS.out.ext E0; have eb := EB.out.trans E0
  have B0 := fun w' (e : Ext wm1 w') => CB0.out w' (Ext.trans E0 e)
  have B1 := fun w' (e : Ext wm1 w') => CB1.out w' (Ext.trans E0 e)
  go_wp2_with fail
  refine (eqStringS_c _ _ _ _ _ _ _ qg.1 qs.1).mono ?_; rintro _ wn ⟨rfl, sn⟩; rw [HRR.out]
  replace og := og.ext sn; replace E0 := E0.trans sn
  clear qg qs eb B0 B1
  go_wp2_with fail
  refine (markStringS_c _ _ _ 1 _ _ _ og (by omega) (by omega)).mono ?_; rintro _ wr ⟨rfl, om, gm⟩
  replace E0 := E0.grown gm (fun b hb => by have := (World.ownsRow.lt og b hb).1; exact (by have := hlo0.out; have := hhi0.out; have := hal0.out; have := hlo1.out; have := hhi1.out; have := hal1.out; have := hgl.out; omega))
  have rm := Own.mk_rd om (by omega)
  clear og om gm
  have qs := QS.out.ext E0; have eb := EB.out.trans E0
  have B0 := fun w' (e : Ext wr w') => CB0.out w' (Ext.trans E0 e)
  have B1 := fun w' (e : Ext wr w') => CB1.out w' (Ext.trans E0 e)
  clear E0 QS EB CB0 CB1
  go_wp2_with fail
  refine (heldStringS_c _ _ _ 1 _ rm (by omega) (by omega)).mono ?_; rintro _ wh ⟨rfl, sh⟩
  replace B0 := fun w' (e : Ext _ w') => B0 w' (Ext.trans sh e)
  replace B1 := fun w' (e : Ext _ w') => B1 w' (Ext.trans sh e)
  replace qs := qs.ext sh
  replace rm := rm.ext sh
  replace eb := eb.trans sh; clear sh
  go_wp2_with fail
  go_region_held3 (fun w' => Ext wh w') (first | assumption | exact Ext_drew (Ext.refl _) | exact Ext.trans (by assumption) (by assumption)) (first
    | (go_at_call 10; (with_reducible refine (U0.out _ ?_).mono ?_); (exact h0.ext (eb.trans (by assumption))); rintro _ wi0 ⟨XA0, Xc0, rfl, r0, si0⟩)
    | (go_at_call 10; (with_reducible refine (U1.out _ ?_).mono ?_); (exact h1.ext (eb.trans (by assumption))); rintro _ wi1 ⟨XA1, Xc1, rfl, r1, si1⟩)
    | (go_at_call 11; refine (iAdded_c _ _ _ _ _ _ _ (r0.ext si1) r1 SD0.out hw0 SD1.out hw1 SH1.out (HT.out.ext (by first | exact eb | exact eb.trans (by assumption)))).mono ?_; rintro _ wi ⟨vi, rfl, oi, si⟩; rw [HRE.out] at oi; obtain ⟨Ai, ci, rfl, qi⟩ := OwnL.rd oi (by omega)))
  have ti : Ext wh wi := by assumption
  clear r0 r1 si0 si1 si oi
  replace B0 := fun w' (e : Ext _ w') => B0 w' (Ext.trans ti e)
  replace B1 := fun w' (e : Ext _ w') => B1 w' (Ext.trans ti e)
  replace qs := qs.ext ti
  replace rm := rm.ext ti
  replace eb := eb.trans ti; clear ti
  go_wp2_with fail
  refine (eqStringS_c _ _ _ _ _ _ _ qi.1 qs.1).mono ?_; rintro _ wj ⟨rfl, sj⟩; rw [HRR.out]
  replace B0 := fun w' (e : Ext _ w') => B0 w' (Ext.trans sj e)
  replace B1 := fun w' (e : Ext _ w') => B1 w' (Ext.trans sj e)
  replace qs := qs.ext sj
  replace rm := rm.ext sj
  replace qi := qi.ext sj
  replace eb := eb.trans sj; clear sj
  go_wp2_with fail
  refine (heldStringS_c _ _ _ 1 _ rm (by omega) (by omega)).mono ?_; rintro _ wk ⟨rfl, sk⟩
  go_wp2
  go_ret
  exact ⟨rfl, eb.trans sk⟩
end Go.Proofs.YtdbbdoldndnbhaaDoor
