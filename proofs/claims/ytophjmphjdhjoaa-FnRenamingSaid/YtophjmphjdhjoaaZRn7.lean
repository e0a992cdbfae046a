/- Which rules can have an entry: facts of a valid description, the kids that count, RootOf. -/
import Derived.Test.YtophjmphjdhjoaaZRn6
set_option linter.unusedVariables false
set_option linter.unusedSimpArgs false
namespace Go.Proofs.Ytophjmphjdhjoaa
open Go.RowKit Go.Sort

theorem allN_at {n k : Nat} {f : Nat → Bool} (h : allN n f = true) (hk : k < n) : f k = true := by
  cases h1 : f k
  · rw [allN_no hk h1] at h; cases h
  · rfl
theorem descOk_len {ds : List DRule} (h : descOk ds = true) : 0 < ds.length ∧ ds.length ≤ 24 := by
  unfold descOk between at h; simp at h; omega
theorem descOk_kid {ds : List DRule} (h : descOk ds = true) (i : Nat) (hi : i < ds.length) (j : Nat) (hj : j < ds[i].kids.length) : 0 ≤ ds[i].kids[j] ∧ ds[i].kids[j] < i := by
  unfold descOk at h
  rw [Bool.and_eq_true] at h
  have h1 := allN_at h.2 hi
  unfold ruleOk at h1
  rw [List.getElem?_eq_getElem hi] at h1
  simp only [Bool.and_eq_true] at h1
  have h2 := allN_at h1.1.2 hj
  unfold kidOk at h2
  rw [List.getElem?_eq_getElem hj] at h2
  unfold between at h2; simp at h2; omega
/-- the kids that count among the first k -/
def selK (r : DRule) (k : Nat) : List Int := if r.kind = 4 ∨ r.kind = 5 ∨ r.kind = 7 then (r.kids.take k).drop 1 else r.kids.take k
theorem selK_all (r : DRule) : selK r r.kids.length = kidsOf r := by unfold selK kidsOf; rw [List.take_length]
theorem selK_zero (r : DRule) : selK r 0 = [] := by unfold selK; simp
theorem selK_step (r : DRule) (k : Nat) (hk : k < r.kids.length) (h : 0 < k ∨ ¬ (r.kind = 4 ∨ r.kind = 5 ∨ r.kind = 7)) : selK r (k+1) = selK r k ++ [r.kids[k]] := by
  unfold selK
  rw [List.take_succ_eq_append_getElem hk]
  split
  · rename_i h1
    rw [List.drop_append_of_le_length (by rw [List.length_take]; rcases h with h | h; omega; exact absurd h1 h)]
  · rfl
theorem selK_skip (r : DRule) (h : r.kind = 4 ∨ r.kind = 5 ∨ r.kind = 7) : selK r 1 = selK r 0 := by
  unfold selK; rw [if_pos h, if_pos h, List.drop_eq_nil_of_le (by rw [List.length_take]; omega)]; simp
theorem setAll_snoc (c : List Bool) (l : List Int) (k : Int) : setAll c (l ++ [k]) = (setAll c l).set k.toNat true := by unfold setAll; rw [List.foldl_append]; rfl
theorem setAll_true (c : List Bool) (l : List Int) (i : Nat) (h : c[i]? = some true) : (setAll c l)[i]? = some true := by
  unfold setAll
  induction l generalizing c with
  | nil => exact h
  | cons a t ih =>
    rw [List.foldl_cons]
    refine ih _ ?_
    rw [List.getElem?_set]
    have hlt : i < c.length := by
      rcases Nat.lt_or_ge i c.length with h' | h'
      · exact h'
      · rw [List.getElem?_eq_none h'] at h; cases h
    split
    · simp; omega
    · exact h
theorem sRoot_c (A : Option Addr) (ds : List DRule) (c : Nat) (w : World) (hl : ds.length ≤ 9223372036854775807) :
    Gives Try.prog 53 #[vdesc (.slice A ds.length c)] w (.int .i64 ((ds.length : Int) - 1)) := by
  have eb := Ext_alloc (.cells #[.slice A ds.length c] 26) (Ext.refl w)
  have BX := fun w' (e : Ext (w.alloc (.cells #[.slice A ds.length c] 26)) w') => boxed e
  unfold vdesc
  go_enter Try.func53, Try.ntmps53
  go_wp2
  go_ret
  exact ⟨ret_i64 (by go_num), eb⟩

end Go.Proofs.Ytophjmphjdhjoaa

/- LostNames of the program and of the reference. -/
namespace Go.Proofs.Ytophjmphjdhjoaa
open Go.RowKit Go.Sort

def knownB (ds : List DRule) (i : Int) : Bool := descOk ds && (decide (0 ≤ i) && decide (i < ds.length))
set_option maxHeartbeats 1000000 in
theorem iKnown_c (A : Option Addr) (ds : List DRule) (c : Nat) (i : Int) (w : World) (hd : RdD w A ds c) (hs : ShortD ds) (hw : WfD ds) :
    Gives Try.prog 22 #[vdesc (.slice A ds.length c), .int .i64 i] w (.bool (knownB ds i)) := by
  have hl := hd.len
  have eb := Ext_alloc (.cells #[.slice A ds.length c] 26) (Ext.refl w)
  have BX := fun w' (e : Ext (w.alloc (.cells #[.slice A ds.length c] 26)) w') => boxed e
  have CV := Lib.hid (fun w h => iValidDesc_c A ds c w h hs hw)
  have CH := Lib.hid (fun w => hasRule_c A ds.length c i w hl)
  unfold knownB
  unfold vdesc at *
  generalize descOk ds = p at *
  generalize (decide (0 ≤ i) && decide (i < (ds.length : Int))) = q at *
  cases p
  · go_enter Try.func22, Try.ntmps22
    go_wp2_with fail
    refine (CV.out _ (hd.ext eb)).mono ?_; rintro _ w1 ⟨rfl, e1⟩
    go_wp2
    go_ret
    exact ⟨ret_bool (by simp), eb.trans e1⟩
  · go_enter Try.func22, Try.ntmps22
    go_wp2_with fail
    refine (CV.out _ (hd.ext eb)).mono ?_; rintro _ w1 ⟨rfl, e1⟩
    go_wp2_with fail
    refine (CH.out _).mono ?_; rintro _ w2 ⟨rfl, e2⟩
    go_wp2
    go_ret
    exact ⟨ret_bool (by simp), eb.trans (e1.trans e2)⟩
set_option maxHeartbeats 1000000 in
theorem sKnown_c (A : Option Addr) (ds : List DRule) (c : Nat) (i : Int) (w : World) (hd : RdD w A ds c) (hs : ShortD ds) (hw : WfD ds) :
    Gives Try.prog 24 #[vdesc (.slice A ds.length c), .int .i64 i] w (.bool (knownB ds i)) := by
  have hl := hd.len
  have eb := Ext_alloc (.cells #[.slice A ds.length c] 26) (Ext.refl w)
  have BX := fun w' (e : Ext (w.alloc (.cells #[.slice A ds.length c] 26)) w') => boxed e
  have CV := Lib.hid (fun w h => sValidDesc_c A ds c w h hs hw)
  have CH := Lib.hid (fun w => l1In_c i 0 ((ds.length : Int) - 1) w)
  have HQ : Hid ((decide (0 ≤ i) && decide (i < (ds.length : Int))) = (decide (0 ≤ i) && decide (i ≤ (ds.length : Int) - 1))) := by
    show _ = _; congr 1; rw [Bool.eq_iff_iff]; simp; omega
  unfold knownB
  rw [HQ.out]
  clear HQ
  unfold vdesc at *
  generalize descOk ds = p at *
  generalize (decide (0 ≤ i) && decide (i ≤ (ds.length : Int) - 1)) = q at *
  cases q
  · go_enter Try.func24, Try.ntmps24
    go_wp2_with fail
    refine (CH.out _).mono ?_; rintro _ w1 ⟨rfl, e1⟩
    go_wp2
    go_ret
    exact ⟨ret_bool (by simp), eb.trans e1⟩
  · go_enter Try.func24, Try.ntmps24
    go_wp2_with fail
    refine (CH.out _).mono ?_; rintro _ w1 ⟨rfl, e1⟩
    go_wp2_with fail
    refine (CV.out _ (hd.ext (eb.trans e1))).mono ?_; rintro _ w2 ⟨rfl, e2⟩
    go_wp2
    go_ret
    exact ⟨ret_bool (by simp), eb.trans (e1.trans e2)⟩
end Go.Proofs.Ytophjmphjdhjoaa

/- Extension of one description by another one, as a plain function of the rules. -/
namespace Go.Proofs.Ytophjmphjdhjoaa

theorem allN_congr {n : Nat} {f g : Nat → Bool} (h : ∀ k, k < n → f k = g k) : allN n f = allN n g := by
  cases hg : allN n g
  · cases hf : allN n f
    · rfl
    · have : allN n g = true := allN_yes fun j hj => by rw [← h j hj]; exact allN_at hf hj
      rw [hg] at this; cases this
  · exact allN_yes fun j hj => by rw [h j hj]; exact allN_at hg hj
/-- what a valid rule has, by its kind -/
structure RuleFacts (r : DRule) : Prop where
  kind : 1 ≤ r.kind ∧ r.kind ≤ 10
  plain : r.kind = 1 ∨ r.kind = 2 ∨ r.kind = 3 ∨ r.kind = 10 → r.names = [] ∧ r.kids = []
  parts : r.kind = 4 ∨ r.kind = 5 ∨ r.kind = 6 ∨ r.kind = 7 ∨ r.kind = 8 ∨ r.kind = 9 → r.size = 0 ∧ r.little = false ∧ r.bytes = []
  cho : r.kind = 7 → r.kids.length = r.tags.length + 1 ∧ r.names = []
theorem plainB_facts {r : DRule} {s b n t : Bool} {k : Int} (h : plainB r s b n t k = true) : (s = false → r.size = 0) ∧ (b = false → r.bytes = []) ∧ (n = false → r.names = []) ∧ (0 ≤ k → (r.kids.length : Int) = k) := by
  unfold plainB at h
  simp only [Bool.and_eq_true, Bool.or_eq_true, beq_iff_eq, decide_eq_true_eq, List.length_eq_zero_iff] at h
  obtain ⟨⟨⟨⟨h1, h2⟩, h3⟩, h4⟩, h5⟩ := h
  refine ⟨fun e => ?_, fun e => ?_, fun e => ?_, fun e => by omega⟩
  · rw [e] at h1; simpa using h1
  · rw [e] at h2; simpa using h2
  · rw [e] at h3; simpa using h3
theorem ruleKind {ds : List DRule} (h : descOk ds = true) (i : Nat) (hi : i < ds.length) : kindOk ds ds[i] = true := by
  unfold descOk at h
  rw [Bool.and_eq_true] at h
  have h1 := allN_at h.2 hi
  unfold ruleOk at h1
  rw [List.getElem?_eq_getElem hi] at h1
  simp only [Bool.and_eq_true] at h1
  exact h1.2
theorem ruleFacts {ds : List DRule} (h : descOk ds = true) (i : Nat) (hi : i < ds.length) : RuleFacts ds[i] := by
  unfold descOk at h
  rw [Bool.and_eq_true] at h
  have h1 := allN_at h.2 hi
  unfold ruleOk at h1
  rw [List.getElem?_eq_getElem hi] at h1
  simp only [Bool.and_eq_true] at h1
  have hk := h1.2
  have hlit := h1.1.1.1.2
  generalize ds[i] = r at *
  have hl : r.kind ≠ 1 → r.little = false := by
    intro hne
    cases hq : r.little
    · rfl
    · rw [hq] at hlit; simp at hlit; exact absurd hlit hne
  unfold kindOk at hk
  have NO : ∀ {p : Prop} {k k' : Int}, k ≠ k' → r.kind = k → r.kind = k' → p := fun hne e1 e2 => absurd (e1.symm.trans e2) hne
  split at hk
  · rename_i e
    simp only [Bool.and_eq_true] at hk
    have f := plainB_facts hk.1.1
    exact ⟨by omega, fun _ => ⟨f.2.2.1 rfl, by have := f.2.2.2 (by omega); simpa using this⟩, fun h => by omega, fun h => by omega⟩
  split at hk
  · rename_i e
    simp only [Bool.and_eq_true] at hk
    have f := plainB_facts hk.1
    exact ⟨by omega, fun _ => ⟨f.2.2.1 rfl, by have := f.2.2.2 (by omega); simpa using this⟩, fun h => by omega, fun h => by omega⟩
  split at hk
  · rename_i e
    simp only [Bool.and_eq_true] at hk
    have f := plainB_facts hk.1
    exact ⟨by omega, fun _ => ⟨f.2.2.1 rfl, by have := f.2.2.2 (by omega); simpa using this⟩, fun h => by omega, fun h => by omega⟩
  split at hk
  · rename_i e
    simp only [Bool.and_eq_true] at hk
    have f := plainB_facts hk.1
    exact ⟨by omega, fun h => by omega, fun _ => ⟨f.1 rfl, hl (by omega), f.2.1 rfl⟩, fun h => by omega⟩
  split at hk
  · rename_i e
    simp only [Bool.and_eq_true] at hk
    have f := plainB_facts hk.1
    exact ⟨by omega, fun h => by omega, fun _ => ⟨f.1 rfl, hl (by omega), f.2.1 rfl⟩, fun h => by omega⟩
  split at hk
  · rename_i e
    unfold seqOk at hk
    simp only [Bool.and_eq_true] at hk
    have f := plainB_facts hk.1.1.1
    exact ⟨by omega, fun h => by omega, fun _ => ⟨f.1 rfl, hl (by omega), f.2.1 rfl⟩, fun h => by omega⟩
  split at hk
  · rename_i e
    unfold choOk at hk
    simp only [Bool.and_eq_true] at hk
    have f := plainB_facts hk.1.1
    exact ⟨by omega, fun h => by omega, fun _ => ⟨f.1 rfl, hl (by omega), f.2.1 rfl⟩, fun _ => ⟨by have := f.2.2.2 (by omega); omega, f.2.2.1 rfl⟩⟩
  split at hk
  · rename_i e
    have f := plainB_facts hk
    exact ⟨by omega, fun h => by omega, fun _ => ⟨f.1 rfl, hl (by omega), f.2.1 rfl⟩, fun h => by omega⟩
  split at hk
  · rename_i e
    have f := plainB_facts hk
    exact ⟨by omega, fun h => by omega, fun _ => ⟨f.1 rfl, hl (by omega), f.2.1 rfl⟩, fun h => by omega⟩
  split at hk
  · rename_i e
    simp only [Bool.and_eq_true] at hk
    have f := plainB_facts hk.1.1
    exact ⟨by omega, fun _ => ⟨f.2.2.1 rfl, by have := f.2.2.2 (by omega); simpa using this⟩, fun h => by omega, fun h => by omega⟩
  · cases hk

/-- the place of a tag; the length, where there is none -/
def tagN (l : List Int) (t : Int) : Nat := l.findIdx (· == t)
theorem tagN_at {l : List Int} {t : Int} {k : Nat} (hk : k < l.length) (h : l[k] = t) (hn : ∀ j (hj : j < l.length), j < k → l[j] ≠ t) : tagN l t = k := by
  unfold tagN
  rw [List.findIdx_eq hk]
  exact ⟨by simpa using h, fun j hj => by have := hn j (by omega) hj; simpa using this⟩
theorem tagN_none {l : List Int} {t : Int} (hn : ∀ j (hj : j < l.length), l[j] ≠ t) : tagN l t = l.length := by
  unfold tagN
  rw [List.findIdx_eq_length]
  intro x hx
  obtain ⟨k, hk, rfl⟩ := List.getElem_of_mem hx
  simpa using hn k hk
theorem tagN_le (l : List Int) (t : Int) : tagN l t ≤ l.length := List.findIdx_le_length
def kd (r : DRule) (t : Nat) : Nat := (r.kids.getD t 0).toNat
theorem kd_at {r : DRule} {t : Nat} (h : t < r.kids.length) : kd r t = r.kids[t].toNat := by unfold kd; simp [h]
theorem kd_lt {ds : List DRule} (h : descOk ds = true) (i : Nat) (hi : i < ds.length) (t : Nat) (ht : t < ds[i].kids.length) : kd ds[i] t < i := by
  rw [kd_at ht]; have := descOk_kid h i hi t ht; omega
theorem kd_int {ds : List DRule} (h : descOk ds = true) (i : Nat) (hi : i < ds.length) (t : Nat) (ht : t < ds[i].kids.length) : ds[i].kids[t] = (kd ds[i] t : Int) := by
  rw [kd_at ht]; have := descOk_kid h i hi t ht; omega
/-- what two rules say themselves -/
def extHead (x y : DRule) : Bool := x.kind == y.kind && x.size == y.size && x.little == y.little && x.bytes == y.bytes
/-- the alternative with tag number t of x -/
def extTag (e : Nat → Nat → Bool) (x y : DRule) (t : Nat) : Bool := decide (tagN y.tags (x.tags.getD t 0) < y.tags.length) && e (kd x (t + 1)) (kd y (tagN y.tags (x.tags.getD t 0) + 1))
/-- the parts -/
def extTail (e : Nat → Nat → Bool) (x y : DRule) : Bool :=
  if x.kind = 7 then e (kd x 0) (kd y 0) && allN x.tags.length (extTag e x y)
  else eqNms x.names y.names && x.kids.length == y.kids.length && allN x.kids.length (fun t => e (kd x t) (kd y t))
def extF (a b : List DRule) : Nat → Nat → Nat → Bool
  | 0, _, _ => false
  | n + 1, i, j => match a[i]?, b[j]? with
    | some x, some y => extHead x y && extTail (extF a b n) x y
    | _, _ => false
/-- rule j of b extends rule i of a -/
def ext (a b : List DRule) (i j : Nat) : Bool := extF a b (i + 1) i j
theorem extTail_congr {ds : List DRule} (h : descOk ds = true) (i : Nat) (hi : i < ds.length) (e e' : Nat → Nat → Bool) (y : DRule) (he : ∀ k, k < i → ∀ j, e k j = e' k j) : extTail e ds[i] y = extTail e' ds[i] y := by
  have hk := kd_lt h i hi
  have hf := ruleFacts h i hi
  unfold extTail
  split
  · rename_i h7
    have hc := (hf.cho h7).1
    rw [he _ (hk 0 (by omega))]
    rw [allN_congr (f := extTag e ds[i] y) (g := extTag e' ds[i] y) (fun t ht => by unfold extTag; rw [he _ (hk (t + 1) (by omega))])]
  · rw [allN_congr (fun t ht => he _ (hk t ht) _)]
theorem extF_fuel {a : List DRule} (h : descOk a = true) (b : List DRule) : ∀ n m i j, i < n → i < m → extF a b n i j = extF a b m i j := by
  intro n
  induction n with
  | zero => intro m i j hn; omega
  | succ n ih =>
    intro m i j hn hm
    obtain ⟨m', rfl⟩ : ∃ m', m = m' + 1 := ⟨m - 1, by omega⟩
    unfold extF
    rcases Nat.lt_or_ge i a.length with hi | hi
    · rw [List.getElem?_eq_getElem hi]
      rcases Nat.lt_or_ge j b.length with hj | hj
      · rw [List.getElem?_eq_getElem hj]
        show (_ && _) = (_ && _)
        rw [extTail_congr h i hi _ (extF a b m') _ (fun k hk j => ih m' k j (by omega) (by omega))]
      · rw [List.getElem?_eq_none hj]
    · rw [List.getElem?_eq_none hi]
theorem ext_step {a b : List DRule} (h : descOk a = true) (i j : Nat) (hi : i < a.length) (hj : j < b.length) : ext a b i j = (extHead a[i] b[j] && extTail (ext a b) a[i] b[j]) := by
  unfold ext
  rw [extF, List.getElem?_eq_getElem hi, List.getElem?_eq_getElem hj]
  show (_ && _) = (_ && _)
  rw [extTail_congr h i hi (extF a b i) (fun i j => extF a b (i + 1) i j) b[j] (fun k hk j => extF_fuel h b i (k + 1) k j hk (by omega))]
/-- ExtendsRule, Extends, SameFormat -/
def extRule (a b : List DRule) (i j : Int) : Bool := knownB a i && (knownB b j && ext a b i.toNat j.toNat)
def extD (a b : List DRule) : Bool := extRule a b ((a.length : Int) - 1) ((b.length : Int) - 1)
def sameF (a b : List DRule) : Bool := extD a b && extD b a
end Go.Proofs.Ytophjmphjdhjoaa

/- Renaming a rule, the plain part: the format stays, and renaming back leads back. -/
namespace Go.Proofs.Ytophjmphjdhjoaa
open Go.RowKit Go.Sort

theorem toList_inj {a b : ByteArray} (h : a.toList = b.toList) : a = b := by
  rw [ByteArray.toList_eq, ByteArray.toList_eq] at h
  exact ByteArray.ext (Array.toList_inj.1 h)
/-- rules that differ in their names at most -/
def AlikeR (x y : DRule) : Prop := x.kind = y.kind ∧ x.size = y.size ∧ x.little = y.little ∧ x.bytes = y.bytes ∧ x.names = y.names ∧ x.tags = y.tags ∧ x.kids = y.kids
theorem tags_nodup {ds : List DRule} (h : descOk ds = true) (i : Nat) (hi : i < ds.length) (h7 : ds[i].kind = 7) : ∀ k (hk : k < ds[i].tags.length), ∀ j (hj : j < k), ds[i].tags[j] < ds[i].tags[k] := by
  have hk7 := ruleKind h i hi
  unfold kindOk at hk7
  rw [if_neg (by omega), if_neg (by omega), if_neg (by omega), if_neg (by omega), if_neg (by omega), if_neg (by omega), if_pos h7] at hk7
  unfold choOk at hk7
  simp only [Bool.and_eq_true] at hk7
  have hall := hk7.2
  have step : ∀ k (hk : k + 1 < ds[i].tags.length), ds[i].tags[k] < ds[i].tags[k + 1] := by
    intro k hk
    have h1 := allN_at hall hk
    unfold tagOk at h1
    rw [List.getElem?_eq_getElem hk] at h1
    simp only [Bool.and_eq_true, Bool.or_eq_true, beq_iff_eq, decide_eq_true_eq] at h1
    rcases h1.2 with h2 | h2
    · omega
    · rw [List.getD_eq_getElem?_getD, Nat.add_sub_cancel, List.getElem?_eq_getElem (by omega)] at h2
      exact h2
  intro k
  induction k with
  | zero => intro hk j hj; omega
  | succ k ih =>
    intro hk j hj
    rcases (by omega : j = k ∨ j < k) with rfl | h1
    · exact step j hk
    · exact Int.lt_trans (ih (by omega) j h1) (step k hk)
theorem tagN_self {ds : List DRule} (h : descOk ds = true) (i : Nat) (hi : i < ds.length) (h7 : ds[i].kind = 7) (t : Nat) (ht : t < ds[i].tags.length) : tagN ds[i].tags (ds[i].tags.getD t 0) = t := by
  refine tagN_at ht ?_ (fun j hj hjt => ?_)
  · rw [List.getD_eq_getElem?_getD, List.getElem?_eq_getElem ht]; rfl
  · rw [List.getD_eq_getElem?_getD, List.getElem?_eq_getElem ht]
    have := tags_nodup h i hi h7 t ht j hjt
    simp only [Option.getD_some]
    omega
/-- a description is extended by one that is alike -/
theorem ext_alike {a b : List DRule} (ha : descOk a = true) (hl : a.length = b.length) (hs : ∀ i (h1 : i < a.length) (h2 : i < b.length), AlikeR a[i] b[i]) : ∀ n i, i < n → i < a.length → ext a b i i = true := by
  intro n
  induction n with
  | zero => intro i h; omega
  | succ n ih =>
    intro i hin hi
    have hj : i < b.length := by omega
    rw [ext_step ha i i hi hj]
    obtain ⟨e1, e2, e3, e4, e5, e6, e7⟩ := hs i hi hj
    have hk := kd_lt ha i hi
    have hf := ruleFacts ha i hi
    have hkd : ∀ t, kd b[i] t = kd a[i] t := fun t => by unfold kd; rw [e7]
    rw [Bool.and_eq_true]
    refine ⟨by unfold extHead; simp [e1, e2, e3, e4], ?_⟩
    unfold extTail
    split
    · rename_i h7
      have hc := (hf.cho h7).1
      rw [Bool.and_eq_true]
      refine ⟨?_, allN_yes fun t ht => ?_⟩
      · rw [hkd]; have := hk 0 (by omega); exact ih _ (by omega) (by omega)
      · unfold extTag
        rw [← e6, tagN_self ha i hi h7 t ht, hkd]
        have := hk (t + 1) (by omega)
        rw [ih _ (by omega) (by omega), decide_eq_true ht]; rfl
    · rw [e5, e7, eqNms_refl]
      simp only [beq_self_eq_true, Bool.true_and]
      refine allN_yes fun t ht => ?_
      rw [hkd]
      have := hk t (by rw [e7]; exact ht)
      exact ih _ (by omega) (by omega)
theorem knownB_root {ds : List DRule} (h : descOk ds = true) : knownB ds ((ds.length : Int) - 1) = true := by
  have := descOk_len h
  unfold knownB
  rw [h, decide_eq_true (by omega), decide_eq_true (by omega)]; rfl
theorem extD_alike {a b : List DRule} (ha : descOk a = true) (hb : descOk b = true) (hl : a.length = b.length) (hs : ∀ i (h1 : i < a.length) (h2 : i < b.length), AlikeR a[i] b[i]) : extD a b = true := by
  have h0 := descOk_len ha
  unfold extD extRule
  rw [knownB_root ha, knownB_root hb]
  have : ((b.length : Int) - 1).toNat = ((a.length : Int) - 1).toNat := by omega
  rw [this, ext_alike ha hl hs (((a.length : Int) - 1).toNat + 1) _ (by omega) (by omega)]; rfl
theorem AlikeR.symm {x y : DRule} (h : AlikeR x y) : AlikeR y x := by
  obtain ⟨e1, e2, e3, e4, e5, e6, e7⟩ := h
  exact ⟨e1.symm, e2.symm, e3.symm, e4.symm, e5.symm, e6.symm, e7.symm⟩
theorem AlikeR.refl (x : DRule) : AlikeR x x := ⟨rfl, rfl, rfl, rfl, rfl, rfl, rfl⟩
theorem sameF_alike {a b : List DRule} (ha : descOk a = true) (hl : a.length = b.length) (hs : ∀ i (h1 : i < a.length) (h2 : i < b.length), AlikeR a[i] b[i]) : sameF a b = descOk b := by
  unfold sameF
  cases hb : descOk b
  · have : extD a b = false := by
      unfold extD extRule knownB
      rw [hb]; simp
    rw [this]; rfl
  · rw [extD_alike ha hb hl hs, extD_alike hb ha hl.symm (fun i h1 h2 => (hs i h2 h1).symm)]; rfl
theorem setNm_alike {ds : List DRule} {k : Nat} (t : ByteArray) : ∀ i (h1 : i < (setNm ds k t).length) (h2 : i < ds.length), AlikeR (setNm ds k t)[i] ds[i] := by
  intro i h1 h2
  have h3 : (setNm ds k t)[i] = if k = i then nmR (ds.getD k ⟨⟨#[]⟩, 0, 0, false, [], [], [], []⟩) t else ds[i] := by simp only [setNm, List.getElem_set]
  rw [h3]
  split
  · rename_i e
    subst e
    have : ds.getD k ⟨⟨#[]⟩, 0, 0, false, [], [], [], []⟩ = ds[k] := by simp [h2]
    rw [this]
    exact ⟨rfl, rfl, rfl, rfl, rfl, rfl, rfl⟩
  · exact AlikeR.refl _
/-- the names of valid rules differ -/
theorem names_differ {ds : List DRule} (h : descOk ds = true) (i : Nat) (hi : i < ds.length) (j : Nat) (hj : j < i) : (ds[j].nm.toList == ds[i].nm.toList) = false := by
  unfold descOk at h
  rw [Bool.and_eq_true] at h
  have h1 := allN_at h.2 hi
  unfold ruleOk at h1
  rw [List.getElem?_eq_getElem hi] at h1
  simp only [Bool.and_eq_true] at h1
  have h2 := allN_at h1.1.1.2 hj
  unfold freshNm at h2
  rw [List.getElem?_eq_getElem (by omega)] at h2
  simpa using h2
theorem findR_spec {ds : List DRule} {s : ByteArray} (h : 0 ≤ findR ds s) : ∃ h' : (findR ds s).toNat < ds.length, ds[(findR ds s).toNat].nm = s := by
  unfold findR at *
  cases hf : ds.findIdx? (fun r => r.nm.toList == s.toList) with
  | none => rw [hf] at h; simp at h
  | some i =>
    obtain ⟨h1, h2, _⟩ := List.findIdx?_eq_some_iff_getElem.1 hf
    exact ⟨h1, toList_inj (by simpa using h2)⟩
/-- all that the law on renaming asks of the plain functions -/
theorem ren_law {ds : List DRule} {f t : ByteArray} (h : renOk ds f t = true) :
    descOk (renD ds f t) = true ∧ sameF (renD ds f t) ds = descOk ds ∧ renOk (renD ds f t) t f = descOk ds ∧ (descOk ds = true → renD (renD ds f t) t f = ds) := by
  have hX : renD ds f t = setNm ds (findR ds f).toNat t := by unfold renD; rw [h]; rfl
  have h' := h
  unfold renOk at h'
  rw [Bool.and_eq_true, decide_eq_true_eq] at h'
  obtain ⟨h0, hv⟩ := h'
  obtain ⟨hk, hnm⟩ := findR_spec h0
  rw [hX]
  generalize (findR ds f).toNat = k at *
  have hlen : (setNm ds k t).length = ds.length := setNm_len ds k t
  have hkX : (setNm ds k t)[k]'(by omega) = nmR ds[k] t := by unfold setNm; simp [hk]
  have hfind : findR (setNm ds k t) t = (k : Int) := by
    refine findR_at (by omega) (by rw [hkX]; simp [nmR]) (fun j hj hjk => ?_)
    have := names_differ hv k (by omega) j hjk
    rw [hkX] at this
    simpa [nmR] using this
  have hback : setNm (setNm ds k t) k f = ds := by
    unfold setNm
    rw [List.set_set]
    have e1 : (ds.set k (nmR (ds.getD k ⟨⟨#[]⟩, 0, 0, false, [], [], [], []⟩) t)).getD k ⟨⟨#[]⟩, 0, 0, false, [], [], [], []⟩ = nmR ds[k] t := by simp [hk]
    rw [e1]
    have e2 : nmR (nmR ds[k] t) f = ds[k] := by
      show ({ ({ ds[k] with nm := t } : DRule) with nm := f } : DRule) = ds[k]
      rw [← hnm]
    rw [e2, List.set_getElem_self]
  refine ⟨hv, sameF_alike hv hlen (setNm_alike t), ?_, fun _ => ?_⟩
  · unfold renOk
    rw [hfind, Int.toNat_natCast, hback, decide_eq_true (by omega)]; rfl
  · rename_i hds
    have : renOk (setNm ds k t) t f = true := by unfold renOk; rw [hfind, Int.toNat_natCast, hback, decide_eq_true (by omega), hds]; rfl
    unfold renD
    rw [this, hfind, Int.toNat_natCast, hback]; rfl
end Go.Proofs.Ytophjmphjdhjoaa

/- l9Item and l29Extends of the reference: the walks. -/
namespace Go.Proofs.Ytophjmphjdhjoaa
open Go.RowKit Go.Sort

set_option maxRecDepth 100000 in
set_option maxHeartbeats 2000000 in
theorem sItem_c (p : DRule) (Ab : Option Addr) (cb : Nat) (An : Option Addr) (cn : Nat) (At : Option Addr) (ct : Nat) (Ak : Option Addr) (ck : Nat) (t : Int) (w : World) (h : RdS w p Ab cb An cn At ct Ak ck) (hk7 : p.kind = 7) (hl : p.kids.length = p.tags.length + 1) (hkn : ∀ j (hj : j < p.kids.length), p.kids[j] = (kd p j : Int)) :
    Gives Try.prog 70 #[vrule p (.slice Ab p.bytes.length cb) (.slice An p.names.length cn) (.slice At p.tags.length ct) (.slice Ak p.kids.length ck), .int .i64 t, .int .i64 0] w (.int .i64 (if tagN p.tags t < p.tags.length then (kd p (tagN p.tags t + 1) : Int) else -1)) := by
  have hlt := h.t.len; have hlk := h.k.len
  have eb := Ext_alloc (.cells #[.string p.nm, .int .i64 p.kind, .int .i64 p.size, .bool p.little, .slice Ab p.bytes.length cb, .slice An p.names.length cn, .slice At p.tags.length ct, .slice Ak p.kids.length ck] 35) (Ext.refl w)
  have BX := fun w' (e : Ext (w.alloc (.cells #[.string p.nm, .int .i64 p.kind, .int .i64 p.size, .bool p.little, .slice Ab p.bytes.length cb, .slice An p.names.length cn, .slice At p.tags.length ct, .slice Ak p.kids.length ck] 35)) w') => boxed e
  have FY : Hid (∀ k (hk : k < p.tags.length), (∀ j (hj : j < p.tags.length), j < k → p.tags[j] ≠ t) → p.tags[k] = t → (if tagN p.tags t < p.tags.length then (kd p (tagN p.tags t + 1) : Int) else -1) = (kd p (k + 1) : Int)) := by
    intro k hk hn he; rw [tagN_at hk he hn, if_pos hk]
  have FN : Hid ((∀ j (hj : j < p.tags.length), p.tags[j] ≠ t) → (if tagN p.tags t < p.tags.length then (kd p (tagN p.tags t + 1) : Int) else -1) = -1) := by
    intro hn; rw [tagN_none hn, if_neg (Nat.lt_irrefl _)]
  generalize (if tagN p.tags t < p.tags.length then (kd p (tagN p.tags t + 1) : Int) else -1) = R at *
  have k5 : (p.kind == 5) = false := by rw [hk7]; rfl
  have k6 : (p.kind == 6) = false := by rw [hk7]; rfl
  have k7 : (p.kind == 7) = true := by rw [hk7]; rfl
  have HKN := Lib.hid hkn; have HL1 := Lib.hid hl
  unfold vrule
  clear hk7 hkn hl
  go_enter Try.func70, Try.ntmps70
  go_wp2
  go_loopw [7] (fun ix wr => ∃ k : Nat, k ≤ p.tags.length ∧ ix = .int .i64 k ∧ Hid (∀ j (hj : j < p.tags.length), j < k → p.tags[j] ≠ t) ∧ Ext (w.alloc (.cells #[.string p.nm, .int .i64 p.kind, .int .i64 p.size, .bool p.little, .slice Ab p.bytes.length cb, .slice An p.names.length cn, .slice At p.tags.length ct, .slice Ak p.kids.length ck] 35)) wr) (fun ix _ => p.tags.length - (intOf ix).toNat)
  case atStart => exact ⟨0, by omega, rfl, (fun j _ hj => by omega), Ext.refl _⟩
  case round =>
    obtain ⟨k, hk, rfl, hn, he⟩ := hrel
    by_cases hlt : k < p.tags.length
    · obtain ⟨bt, ot, rfl, hbt, hct⟩ := (h.t.ext eb).at k hlt
      obtain ⟨bk, ok, rfl, hbk, hck⟩ := (h.k.ext eb).at (k + 1) (by have := HL1.out; omega)
      rw [HKN.out (k + 1) (by have := HL1.out; omega)] at hck
      have Y := Lib.hid (FY.out k hlt hn.out)
      have N : Hid (¬ p.tags[k] = t → ∀ j (hj : j < p.tags.length), j < k + 1 → p.tags[j] ≠ t) := fun hne j hj hjk => by
        rcases (by omega : j < k ∨ j = k) with hjk | rfl
        · exact hn.out j hj hjk
        · exact hne
      have d1 : decide ((k : Int) < (p.tags.length : Int)) = true := decide_eq_true (by omega)
      generalize p.tags[k] = x at *
      generalize kd p (k + 1) = y at *
      have hkl : k + 1 < p.kids.length := by have := HL1.out; omega
      clear FY FN hn h HKN
      by_cases hx : x = t
      · have HE := Lib.hid (Y.out hx); clear Y N
        have kx : (x == t) = true := by simpa using hx
        clear hx
        go_wp2
        go_ret
        exact ⟨ret_i64 HE.out.symm, eb.trans he⟩
      · have HE := Lib.hid (N.out hx); clear Y N
        have kx : (x == t) = false := by simpa using hx
        clear hx
        go_wp2
        go_roundw
        case rel => exact ⟨k + 1, by omega, by go_num, HE, he⟩
        case measure => simp [intOf]; omega
    · have HE := Lib.hid (FN.out (fun j hj => hn.out j hj (by omega)))
      have d1 : decide ((k : Int) < (p.tags.length : Int)) = false := decide_eq_false (by omega)
      clear FY FN
      go_wp2
      go_ret
      exact ⟨ret_i64 HE.out.symm, eb.trans he⟩
/-- four blocks that were laid one behind the other -/
theorem boxed4 {w : World} {c0 c1 c2 c3 : Array Value} {T0 T1 T2 T3 : TypeId} {w' : World} (h : Ext ((((w.alloc (.cells c0 T0)).alloc (.cells c1 T1)).alloc (.cells c2 T2)).alloc (.cells c3 T3)) w') :
    (∀ i, w'.cell? ⟨w.heap.size, i, none⟩ = c0[i]?) ∧ (∀ i, w'.cell? ⟨w.heap.size + 1, i, none⟩ = c1[i]?) ∧ (∀ i, w'.cell? ⟨w.heap.size + 1 + 1, i, none⟩ = c2[i]?) ∧ (∀ i, w'.cell? ⟨w.heap.size + 1 + 1 + 1, i, none⟩ = c3[i]?) := by
  have h1 := boxed2 h
  have h2 := boxed2 ((Ext_alloc _ (Ext_alloc _ (Ext.refl _))).trans h)
  have s1 : ((w.alloc (.cells c0 T0)).alloc (.cells c1 T1)).heap.size = w.heap.size + 1 + 1 := by simp
  rw [s1] at h1
  exact ⟨h2.1, h2.2.1, h1.1, h1.2.1⟩
theorem ext_no {a b : List DRule} (h : descOk a = true) (i j : Nat) (hi : i < a.length) (hj : j < b.length) (hh : extHead a[i] b[j] = false) : ext a b i j = false := by rw [ext_step h i j hi hj, hh]; rfl
theorem ext_yes {a b : List DRule} (h : descOk a = true) (i j : Nat) (hi : i < a.length) (hj : j < b.length) (hh : extHead a[i] b[j] = true) : ext a b i j = extTail (ext a b) a[i] b[j] := by rw [ext_step h i j hi hj, hh]; rfl
set_option maxRecDepth 100000 in
set_option maxHeartbeats 8000000 in
theorem sExt_c (A A' : Option Addr) (a b : List DRule) (c c' : Nat) (w0 : World) (ha : RdD w0 A a c) (hb : RdD w0 A' b c') (hva : descOk a = true) (hvb : descOk b = true) (hsa : ShortD a) (hsb : ShortD b) :
    ∀ n i, i < n → i < a.length → ∀ j, j < b.length → ∀ w, Ext w0 w → Gives Try.prog 64 #[vdesc (.slice A a.length c), .int .i64 (i : Int), vdesc (.slice A' b.length c'), .int .i64 (j : Int)] w (.bool (ext a b i j)) := by
  intro n
  induction n with
  | zero => intro i hi; omega
  | succ n ih =>
    intro i hin hi j hj w e0
    have hla := ha.len; have hlb := hb.len
    obtain ⟨ba, oa, Ab, cb, An, cn, At, ct, Ak, ck, hA, hba, hSa, hRa⟩ := (ha.ext e0).at i hi
    obtain ⟨bb, ob, Ab', cb', An', cn', At', ct', Ak', ck', hA', hbb, hSb, hRb⟩ := (hb.ext e0).at j hj
    subst hA; subst hA'
    have HNO := Lib.hid (fun h => ext_no hva i j hi hj h)
    have HYES := Lib.hid (fun h => ext_yes hva i j hi hj h)
    have fa := ruleFacts hva i hi; have fb := ruleFacts hvb j hj
    have ka := Lib.hid (kd_int hva i hi); have kb := Lib.hid (kd_int hvb j hj)
    have la := Lib.hid (kd_lt hva i hi); have lb := Lib.hid (kd_lt hvb j hj)
    have sa := hsa _ (List.getElem_mem hi); have sb := hsb _ (List.getElem_mem hj)
    have IH : Hid (∀ t (ht : t < a[i].kids.length) y, y < b.length → ∀ w', Ext w w' → Gives Try.prog 64 #[vdesc (.slice (some ⟨ba, oa, none⟩) a.length c), .int .i64 (kd a[i] t : Int), vdesc (.slice (some ⟨bb, ob, none⟩) b.length c'), .int .i64 (y : Int)] w' (.bool (ext a b (kd a[i] t) y))) :=
      fun t ht y hy w' e => ih (kd a[i] t) (by have := la.out t ht; omega) (by have := la.out t ht; omega) y hy w' (e0.trans e)
    clear ih hva hvb hsa hsb
    generalize ext a b i j = Z at *
    generalize a[i] = p at *
    generalize b[j] = q at *
    have HJ : Hid (∀ t, t < q.kids.length → kd q t < b.length) := fun t ht => by have := lb.out t ht; omega
    have eb3 := (Ext_alloc (.cells #[.string p.nm, .int .i64 p.kind, .int .i64 p.size, .bool p.little, .slice Ab p.bytes.length cb, .slice An p.names.length cn, .slice At p.tags.length ct, .slice Ak p.kids.length ck] 35) (Ext_alloc (.cells #[.slice (some ⟨bb, ob, none⟩) b.length c'] 26) (Ext_alloc (.cells #[.slice (some ⟨ba, oa, none⟩) a.length c] 26) (Ext.refl w))))
    have eb := (Ext_alloc (.cells #[.string q.nm, .int .i64 q.kind, .int .i64 q.size, .bool q.little, .slice Ab' q.bytes.length cb', .slice An' q.names.length cn', .slice At' q.tags.length ct', .slice Ak' q.kids.length ck'] 35) (Ext_alloc (.cells #[.string p.nm, .int .i64 p.kind, .int .i64 p.size, .bool p.little, .slice Ab p.bytes.length cb, .slice An p.names.length cn, .slice At p.tags.length ct, .slice Ak p.kids.length ck] 35) (Ext_alloc (.cells #[.slice (some ⟨bb, ob, none⟩) b.length c'] 26) (Ext_alloc (.cells #[.slice (some ⟨ba, oa, none⟩) a.length c] 26) (Ext.refl w)))))
    obtain ⟨W3, hW3⟩ : ∃ W3, W3 = ((((w.alloc (.cells #[.slice (some ⟨ba, oa, none⟩) a.length c] 26)).alloc (.cells #[.slice (some ⟨bb, ob, none⟩) b.length c'] 26)).alloc (.cells #[.string p.nm, .int .i64 p.kind, .int .i64 p.size, .bool p.little, .slice Ab p.bytes.length cb, .slice An p.names.length cn, .slice At p.tags.length ct, .slice Ak p.kids.length ck] 35)).alloc (.cells #[.string q.nm, .int .i64 q.kind, .int .i64 q.size, .bool q.little, .slice Ab' q.bytes.length cb', .slice An' q.names.length cn', .slice At' q.tags.length ct', .slice Ak' q.kids.length ck'] 35)) := ⟨_, rfl⟩
    have BX := fun w' (e : Ext W3 w') => boxed4 (hW3 ▸ e)
    have B0 := fun w' e => (BX w' e).1; have B1 := fun w' e => (BX w' e).2.1; have B2 := fun w' e => (BX w' e).2.2.1; have B3 := fun w' e => (BX w' e).2.2.2
    clear BX
    rw [hW3] at B0 B1 B2 B3
    obtain ⟨m0, m1, m2, m3, m4, m5, m6, m7⟩ := hRa
    obtain ⟨r0, r1, r2, r3, r4, r5, r6, r7⟩ := hRb
    have CB := Lib.hid (fun w' (e : Ext w w') => sEqualBytes_c Ab Ab' p.bytes q.bytes cb cb' w' ⟨hSa.b.ext e, sa.1⟩ ⟨hSb.b.ext e, sb.1⟩)
    have CT := Lib.hid (fun w' (e : Ext w w') => l4Texts_c An An' p.names q.names cn cn' w' (hSa.n.ext e) (hSb.n.ext e))
    have HSA := Lib.hid hSa; have HSB := Lib.hid hSb
    have hpk := hSa.k.len; have hpt := hSa.t.len; have hqk := hSb.k.len
    clear ha hb sa sb lb la
    unfold vdesc at *
    have HW3 := Lib.hid hW3; clear hW3
    unfold extHead at HNO HYES
    generalize p.little = lp at *
    generalize hlq : q.little = lq at *
    have HLQ := Lib.hid hlq; clear hlq
    cases g1 : (p.kind == q.kind)
    · have HE : Hid (Z = false) := HNO.out (by rw [g1]; rfl)
      have h1 : (p.kind != q.kind) = true := by rw [bne, g1]; rfl
      go_enter Try.func64, Try.ntmps64
      go_wp2
      go_ret
      exact ⟨ret_bool HE.out.symm, eb⟩
    have h1 : (p.kind != q.kind) = false := by rw [bne, g1]; rfl
    cases g2 : (p.size == q.size)
    · have HE : Hid (Z = false) := HNO.out (by rw [g1, g2]; rfl)
      have h2 : (p.size != q.size) = true := by rw [bne, g2]; rfl
      go_enter Try.func64, Try.ntmps64
      go_wp2
      go_ret
      exact ⟨ret_bool HE.out.symm, eb⟩
    have h2 : (p.size != q.size) = false := by rw [bne, g2]; rfl
    cases g3 : (lp == lq)
    · have HE : Hid (Z = false) := HNO.out (by rw [g1, g2, g3]; rfl)
      have h3 : (lp != lq) = true := by rw [bne, g3]; rfl
      go_enter Try.func64, Try.ntmps64
      go_wp2
      go_ret
      exact ⟨ret_bool HE.out.symm, eb⟩
    obtain rfl : lp = lq := by simpa using g3
    have h3 : (lp != lp) = false := by simp
    cases g4 : (p.bytes == q.bytes)
    · have HE : Hid (Z = false) := HNO.out (by rw [g1, g2, g3, g4]; rfl)
      rw [g4] at CB
      go_enter Try.func64, Try.ntmps64
      go_wp2_with fail
      refine (CB.out _ eb).mono ?_; rintro _ w1 ⟨rfl, s1⟩
      go_wp2
      go_ret
      exact ⟨ret_bool HE.out.symm, eb.trans s1⟩
    have HZ : Hid (Z = extTail (ext a b) p q) := HYES.out (by rw [g1, g2, g3, g4]; rfl)
    rw [g4] at CB
    clear HNO HYES g1 g2 g3 g4
    unfold extTail at HZ
    obtain ⟨_, W4, hW4, s4⟩ : ∃ _ : Unit, ∃ W4 : World, Hid (W4 = W4) ∧ Ext w w := ⟨(), w, rfl, Ext.refl w⟩
    clear hW4 s4
    by_cases h7 : p.kind = 7
    · rw [if_pos h7] at HZ
      have hq7 : q.kind = 7 := by have := h1; simp at this; omega
      have HC := Lib.hid (fa.cho h7).1; have HC' := Lib.hid (fb.cho hq7).1
      have hp0 : 0 < p.kids.length := by have := HC.out; omega
      have hq0 : 0 < q.kids.length := by have := HC'.out; omega
      have k7 : (p.kind == 7) = true := by simpa using h7
      have I0 := Lib.hid (IH.out 0 hp0 (kd q 0) (HJ.out 0 hq0))
      have CI : Hid (∀ (t : Int) w', Ext w w' → Gives Try.prog 70 #[vrule q (.slice Ab' q.bytes.length cb') (.slice An' q.names.length cn') (.slice At' q.tags.length ct') (.slice Ak' q.kids.length ck'), .int .i64 t, .int .i64 0] w' (.int .i64 (if tagN q.tags t < q.tags.length then (kd q (tagN q.tags t + 1) : Int) else -1))) :=
        fun t w' e => sItem_c q Ab' cb' An' cn' At' ct' Ak' ck' t w' (HSB.out.ext e) hq7 HC'.out kb.out
      unfold vrule at CI
      rw [HLQ.out] at CI
      obtain ⟨bk, ok, hAk, hbk, hck⟩ := HSA.out.k.at 0 hp0
      obtain ⟨bk', ok', hAk', hbk', hck'⟩ := HSB.out.k.at 0 hq0
      subst hAk; subst hAk'
      rw [ka.out 0 hp0] at hck
      rw [kb.out 0 hq0] at hck'
      simp only [Nat.add_zero, vint] at hck hck'
      have hz0 := Lib.hid (fun (h : ext a b (kd p 0) (kd q 0) = false) => HZ.out.trans (by rw [h]; rfl : (ext a b (kd p 0) (kd q 0) && allN p.tags.length (extTag (ext a b) p q)) = false))
      have hz1 := Lib.hid (fun (h : ext a b (kd p 0) (kd q 0) = true) => HZ.out.trans (by rw [h]; rfl : (ext a b (kd p 0) (kd q 0) && allN p.tags.length (extTag (ext a b) p q)) = allN p.tags.length (extTag (ext a b) p q)))
      clear HZ h7 hq7 fa fb
      generalize kd p 0 = x0 at *
      generalize kd q 0 = y0 at *
      generalize ext a b x0 y0 = z0 at *
      go_enter Try.func64, Try.ntmps64
      go_wp2_with fail
      refine (CB.out _ eb).mono ?_; rintro _ w1 ⟨rfl, s1⟩
      replace B0 := fun w' (e : Ext w1 w') => B0 w' (Ext.trans s1 e); replace B1 := fun w' (e : Ext w1 w') => B1 w' (Ext.trans s1 e); replace B2 := fun w' (e : Ext w1 w') => B2 w' (Ext.trans s1 e); replace B3 := fun w' (e : Ext w1 w') => B3 w' (Ext.trans s1 e)
      have e1 := eb.trans s1
      replace hck := fun w' (e : Ext w1 w') => hck w' (Ext.trans e1 e); replace hck' := fun w' (e : Ext w1 w') => hck' w' (Ext.trans e1 e)
      clear s1 eb m0 m1 m2 m3 m4 m5 m6 m7 r0 r1 r2 r3 r4 r5 r6 r7
      go_wp2_with fail
      refine wp_region_quiet_below (by kernel_rfl) (by kernel_rfl) ?_
      repeat (go_big_quiet_step ((go_at_call 64; exact Calls.regrown_of (I0.out _ (e1.trans (by first | exact Ext.refl _ | assumption | exact Ext_regrown _ _ (Ext.refl _)))))))
      refine wpQuiet_nil ?_
      rintro w2 ⟨⟨nq, osq⟩, hq⟩
      have ew2 := ext_of_q hq
      clear hq nq osq
      cases z0
      · have HE := Lib.hid (hz0.out rfl); clear hz0 hz1
        go_wp2
        go_ret
        exact ⟨ret_bool HE.out.symm, e1.trans ew2⟩
      · have HE := Lib.hid (hz1.out rfl); clear hz0 hz1
        clear hck hck'
        have e2 := e1.trans ew2
        go_wp2
        go_loopw [11] (fun ix wr => ∃ k : Nat, k ≤ p.tags.length ∧ ix = .int .i64 k ∧ Hid (∀ t, t < k → extTag (ext a b) p q t = true) ∧ Ext w1 wr) (fun ix _ => p.tags.length - (intOf ix).toNat)
        case atStart => exact ⟨0, by omega, rfl, (fun t ht => by omega), ew2⟩
        case round =>
          clear ew2 e2
          obtain ⟨k, hk, rfl, hn, he⟩ := hrel
          by_cases hlt : k < p.tags.length
          · obtain ⟨bt, ot, hAt, hbt, hct⟩ := HSA.out.t.at k hlt
            subst hAt
            have hkl : k + 1 < p.kids.length := by have := HC.out; omega
            obtain ⟨bk2, ok2, hAk2, hbk2, hck2⟩ := HSA.out.k.at (k + 1) hkl
            injection hAk2 with hAk2; injection hAk2 with q1 q2; subst q1; subst q2
            rw [ka.out (k + 1) hkl] at hck2
            replace hct := fun w' (e : Ext w1 w') => hct w' (Ext.trans e1 e); replace hck2 := fun w' (e : Ext w1 w') => hck2 w' (Ext.trans e1 e)
            have hgt : p.tags.getD k 0 = p.tags[k] := by simp [hlt]
            have HET : Hid (extTag (ext a b) p q k = (decide (tagN q.tags p.tags[k] < q.tags.length) && ext a b (kd p (k + 1)) (kd q (tagN q.tags p.tags[k] + 1)))) := by show _ = _; unfold extTag; rw [hgt]
            have YES : Hid (extTag (ext a b) p q k = true → ∀ t, t < k + 1 → extTag (ext a b) p q t = true) := fun h => upTo hn.out h
            have NO : Hid (extTag (ext a b) p q k = false → Z = false) := fun h => HE.out.trans (allN_no hlt h)
            have C := Lib.hid (CI.out p.tags[k])
            clear hgt hn
            generalize p.tags[k] = x at *
            have d1 : decide ((k : Int) < (p.tags.length : Int)) = true := decide_eq_true (by omega)
            by_cases hT : tagN q.tags x < q.tags.length
            · rw [decide_eq_true hT, Bool.true_and] at HET
              rw [if_pos hT] at C
              have I1 := Lib.hid (IH.out (k + 1) hkl (kd q (tagN q.tags x + 1)) (HJ.out _ (by have := HC'.out; omega)))
              clear hT
              generalize kd q (tagN q.tags x + 1) = y at *
              generalize kd p (k + 1) = u at *
              rw [HET.out] at YES NO
              generalize ext a b u y = z at *
              clear HET
              go_wp2_with fail
              refine wp_region_quiet_below (by kernel_rfl) (by kernel_rfl) ?_
              repeat (go_big_quiet_step ((go_at_call 70; exact Calls.regrown_of (C.out _ (e1.trans (by first | assumption | exact Ext_regrown _ _ he))))))
              refine wpQuiet_nil ?_
              rintro w3 ⟨⟨nq, osq⟩, hq⟩
              have ew3 := ext_of_q hq
              clear hq nq osq
              have e3 := he.trans ew3
              have dy : decide ((y : Int) < 0) = false := decide_eq_false (by omega)
              go_wp2_with fail
              refine wp_region_quiet_below (by kernel_rfl) (by kernel_rfl) ?_
              repeat (go_big_quiet_step ((go_at_call 64; exact Calls.regrown_of (I1.out _ (e1.trans (by first | assumption | exact Ext_regrown _ _ e3))))))
              refine wpQuiet_nil ?_
              rintro w4 ⟨⟨nq, osq⟩, hq⟩
              have ew4 := ext_of_q hq
              clear hq nq osq
              have e4 := e3.trans ew4
              cases z
              · have HF := Lib.hid (NO.out rfl); clear YES NO
                go_wp2
                go_ret
                exact ⟨ret_bool HF.out.symm, e1.trans e4⟩
              · have HF := Lib.hid (YES.out rfl); clear YES NO
                go_wp2
                go_roundw
                case rel =>
                  iterate 32 apply Exists.intro
                  refine ⟨?_, rfl⟩
                  exact ⟨k + 1, by omega, by go_num, HF, e4⟩
                case measure => simp [intOf]; omega
            · rw [decide_eq_false hT, Bool.false_and] at HET
              rw [if_neg hT] at C
              have HF := Lib.hid (NO.out HET.out)
              clear YES NO HET hT
              go_wp2_with fail
              refine wp_region_quiet_below (by kernel_rfl) (by kernel_rfl) ?_
              repeat (go_big_quiet_step ((go_at_call 70; exact Calls.regrown_of (C.out _ (e1.trans (by first | assumption | exact Ext_regrown _ _ he))))))
              refine wpQuiet_nil ?_
              rintro w3 ⟨⟨nq, osq⟩, hq⟩
              have ew3 := ext_of_q hq
              clear hq nq osq
              have e3 := he.trans ew3
              go_wp2
              refine wp_region_quiet_below (by kernel_rfl) (by kernel_rfl) ?_
              repeat (go_big_quiet_step (fail))
              refine wpQuiet_nil ?_
              rintro w4 ⟨⟨nq, osq⟩, hq⟩
              have ew4 := ext_of_q hq
              clear hq nq osq
              have e4 := e3.trans ew4
              go_wp2
              go_ret
              exact ⟨ret_bool HF.out.symm, e1.trans e4⟩
          · have HF : Hid (Z = true) := HE.out.trans (allN_yes fun t ht => hn.out t (by omega))
            have d1 : decide ((k : Int) < (p.tags.length : Int)) = false := decide_eq_false (by omega)
            go_wp2
            go_ret
            exact ⟨ret_bool HF.out.symm, e1.trans he⟩
    · rw [if_neg h7] at HZ
      have k7 : (p.kind == 7) = false := by simpa using h7
      clear h7 fa fb
      cases g5 : eqNms p.names q.names
      · have HE : Hid (Z = false) := HZ.out.trans (by rw [g5]; rfl)
        rw [g5] at CT
        clear HZ g5
        go_enter Try.func64, Try.ntmps64
        go_wp2_with fail
        refine (CB.out _ eb).mono ?_; rintro _ w1 ⟨rfl, s1⟩
        have e1 := eb.trans s1
        go_wp2_with fail
        refine (CT.out _ e1).mono ?_; rintro _ w2 ⟨rfl, s2⟩
        go_wp2
        go_ret
        exact ⟨ret_bool HE.out.symm, e1.trans s2⟩
      rw [g5] at CT
      by_cases g6 : p.kids.length = q.kids.length
      · have HE : Hid (Z = allN p.kids.length (fun t => ext a b (kd p t) (kd q t))) := HZ.out.trans (by rw [g5, g6]; simp)
        have H6 := Lib.hid g6
        clear HZ g5 g6
        go_enter Try.func64, Try.ntmps64
        go_wp2_with fail
        refine (CB.out _ eb).mono ?_; rintro _ w1 ⟨rfl, s1⟩
        have e1 := eb.trans s1
        go_wp2_with fail
        refine (CT.out _ e1).mono ?_; rintro _ w2 ⟨rfl, s2⟩
        replace B0 := fun w' (e : Ext w2 w') => B0 w' (Ext.trans (s1.trans s2) e); replace B1 := fun w' (e : Ext w2 w') => B1 w' (Ext.trans (s1.trans s2) e); replace B2 := fun w' (e : Ext w2 w') => B2 w' (Ext.trans (s1.trans s2) e); replace B3 := fun w' (e : Ext w2 w') => B3 w' (Ext.trans (s1.trans s2) e)
        have e2 := e1.trans s2
        clear s1 s2 eb e1 m0 m1 m2 m3 m4 m5 m6 m7 r0 r1 r2 r3 r4 r5 r6 r7
        have h6 : ((p.kids.length : Int) != (q.kids.length : Int)) = false := by have := H6.out; simp [this]
        go_wp2
        clear h6
        go_loopw [13] (fun ix wr => ∃ k : Nat, k ≤ p.kids.length ∧ ix = .int .i64 k ∧ Hid (∀ t, t < k → ext a b (kd p t) (kd q t) = true) ∧ Ext w2 wr) (fun ix _ => p.kids.length - (intOf ix).toNat)
        case atStart => exact ⟨0, by omega, rfl, (fun t ht => by omega), Ext.refl _⟩
        case round =>
          obtain ⟨k, hk, rfl, hn, he⟩ := hrel
          by_cases hlt : k < p.kids.length
          · have hlt' : k < q.kids.length := by have := H6.out; omega
            obtain ⟨bk, ok, hAk, hbk, hck⟩ := HSA.out.k.at k hlt
            obtain ⟨bk', ok', hAk', hbk', hck'⟩ := HSB.out.k.at k hlt'
            subst hAk; subst hAk'
            rw [ka.out k hlt] at hck
            rw [kb.out k hlt'] at hck'
            replace hck := fun w' (e : Ext w2 w') => hck w' (Ext.trans e2 e); replace hck' := fun w' (e : Ext w2 w') => hck' w' (Ext.trans e2 e)
            have YES : Hid (ext a b (kd p k) (kd q k) = true → ∀ t, t < k + 1 → ext a b (kd p t) (kd q t) = true) := fun h => upTo hn.out h
            have NO : Hid (ext a b (kd p k) (kd q k) = false → Z = false) := fun h => HE.out.trans (allN_no (f := fun t => ext a b (kd p t) (kd q t)) hlt h)
            have I1 := Lib.hid (IH.out k hlt (kd q k) (HJ.out _ hlt'))
            have d1 : decide ((k : Int) < (p.kids.length : Int)) = true := decide_eq_true (by omega)
            clear hn
            generalize kd p k = u at *
            generalize kd q k = y at *
            generalize ext a b u y = z at *
            go_wp2_with fail
            refine wp_region_quiet_below (by kernel_rfl) (by kernel_rfl) ?_
            repeat (go_big_quiet_step ((go_at_call 64; exact Calls.regrown_of (I1.out _ (e2.trans (by first | assumption | exact Ext_regrown _ _ he))))))
            refine wpQuiet_nil ?_
            rintro w4 ⟨⟨nq, osq⟩, hq⟩
            have ew4 := ext_of_q hq
            clear hq nq osq
            have e4 := he.trans ew4
            cases z
            · have HF := Lib.hid (NO.out rfl); clear YES NO
              go_wp2
              go_ret
              exact ⟨ret_bool HF.out.symm, e2.trans e4⟩
            · have HF := Lib.hid (YES.out rfl); clear YES NO
              go_wp2
              go_roundw
              case rel => exact ⟨k + 1, by omega, by go_num, HF, e4⟩
              case measure => simp [intOf]; omega
          · have HF : Hid (Z = true) := HE.out.trans (allN_yes fun t ht => hn.out t (by omega))
            have d1 : decide ((k : Int) < (p.kids.length : Int)) = false := decide_eq_false (by omega)
            go_wp2
            go_ret
            exact ⟨ret_bool HF.out.symm, e2.trans he⟩
      · have HE : Hid (Z = false) := HZ.out.trans (by rw [g5]; simp [g6])
        have h6 : ((p.kids.length : Int) != (q.kids.length : Int)) = true := by simp; omega
        clear HZ g5 g6
        go_enter Try.func64, Try.ntmps64
        go_wp2_with fail
        refine (CB.out _ eb).mono ?_; rintro _ w1 ⟨rfl, s1⟩
        have e1 := eb.trans s1
        go_wp2_with fail
        refine (CT.out _ e1).mono ?_; rintro _ w2 ⟨rfl, s2⟩
        have e2 := e1.trans s2
        replace B2 := fun w' (e : Ext w2 w') => B2 w' (Ext.trans (s1.trans s2) e); replace B3 := fun w' (e : Ext w2 w') => B3 w' (Ext.trans (s1.trans s2) e)
        go_wp2
        go_ret
        exact ⟨ret_bool HE.out.symm, e2⟩
end Go.Proofs.Ytophjmphjdhjoaa

/- LostNames of the program and of the reference: the walks. -/
namespace Go.Proofs.Ytophjmphjdhjoaa
open Go.RowKit Go.Sort

def lostN (p q : DRule) : List ByteArray := p.names.filter (fun s => !hasNm q.names s)
/-- the names of a's sequence ra that b's sequence rb lacks -/
def lost (a : List DRule) (ra : Int) (b : List DRule) (rb : Int) : List ByteArray :=
  if knownB a ra = true then if knownB b rb = true then (match a[ra.toNat]?, b[rb.toNat]? with | some p, some q => if p.kind = 6 then if q.kind = 6 then lostN p q else [] else [] | _, _ => []) else [] else []
theorem knownB_at {a : List DRule} {ra : Int} (h : knownB a ra = true) : ∃ i : Nat, ∃ _ : i < a.length, ra = (i : Int) := by
  unfold knownB at h; simp at h; exact ⟨ra.toNat, by omega, by omega⟩
theorem lost_at {a b : List DRule} {i j : Nat} (h : knownB a (i : Int) = true) (h' : knownB b (j : Int) = true) (hi : i < a.length) (hj : j < b.length) :
    lost a i b j = if a[i].kind = 6 then if b[j].kind = 6 then lostN a[i] b[j] else [] else [] := by
  unfold lost; rw [if_pos h, if_pos h']; simp [hi, hj]
theorem names_len {a : List DRule} {n : Nat} (h : szD a ≤ n) {p : DRule} (hp : p ∈ a) : p.names.length ≤ n := by
  have := szD_mem h hp; unfold szRl at this; omega
theorem lost_len {a b : List DRule} {ra rb : Int} {n : Nat} (h : szD a ≤ n) : (lost a ra b rb).length ≤ n := by
  by_cases h1 : knownB a ra = true
  · by_cases h2 : knownB b rb = true
    · obtain ⟨i, hi, rfl⟩ := knownB_at h1
      obtain ⟨j, hj, rfl⟩ := knownB_at h2
      rw [lost_at h1 h2 hi hj]
      have h3 := names_len h (List.getElem_mem hi)
      have h4 := List.length_filter_le (fun s => !hasNm b[j].names s) a[i].names
      unfold lostN
      split
      · split
        · omega
        · simp
      · simp
    · unfold lost; rw [if_pos h1, if_neg h2]; simp
  · unfold lost; rw [if_neg h1]; simp
set_option maxRecDepth 100000 in
set_option maxHeartbeats 4000000 in
theorem iLost_c (A A' : Option Addr) (a b : List DRule) (c c' : Nat) (ra rb : Int) (w : World) (ha : RdD w A a c) (hb : RdD w A' b c') (hsa : ShortD a) (hwa : WfD a) (hsb : ShortD b) (hwb : WfD b) (hL : szD a ≤ 1048576) :
    Calls Try.prog 7 #[vdesc (.slice A a.length c), .int .i64 ra, vdesc (.slice A' b.length c'), .int .i64 rb] w fun e w' => ∃ v, e = .returned v ∧ OwnL vstr 9 w w' v (lost a ra b rb) ∧ Ext w w' := by
  have hl := ha.len
  have hl' := hb.len
  have eb := Ext_alloc (.cells #[.slice A' b.length c'] 26) (Ext_alloc (.cells #[.slice A a.length c] 26) (Ext.refl w))
  have BX := fun w' (e : Ext ((w.alloc (.cells #[.slice A a.length c] 26)).alloc (.cells #[.slice A' b.length c'] 26)) w') => boxed2 e
  have B0 := fun w' e => (BX w' e).1
  have B1 := fun w' e => (BX w' e).2.1
  clear BX
  have CA := Lib.hid (fun w h => iKnown_c A a c ra w h hsa hwa)
  have CB := Lib.hid (fun w h => iKnown_c A' b c' rb w h hsb hwb)
  unfold vdesc at *
  obtain ⟨W0, hW0⟩ : ∃ W0, W0 = ((w.alloc (.cells #[.slice A a.length c] 26)).alloc (.cells #[.slice A' b.length c'] 26)) := ⟨_, rfl⟩
  rw [← hW0] at eb B0 B1
  have hs0 : W0.heap.size = w.heap.size + 1 + 1 := by rw [hW0]; simp
  have OE := OwnL.empty (f := vstr) (e := 9) (Ext.refl W0)
  rw [hs0] at OE
  have HOE := Lib.hid OE; have HW0 := Lib.hid hW0
  have x0 := Ext_alloc (.cells #[] 9) (Ext.refl W0)
  clear OE hW0 hs0
  cases hka : knownB a ra
  · have HE : Hid (lost a ra b rb = []) := by show _ = _; unfold lost; rw [hka]; rfl
    rw [hka] at CA; clear hka
    go_enter Try.func7, Try.ntmps7
    go_wp2_with fail
    rw [← HW0.out]
    refine (CA.out _ (ha.ext (eb.trans x0))).mono ?_; rintro _ w1 ⟨rfl, s1⟩
    have e1 := x0.trans s1
    go_wp2
    go_ret
    refine ⟨_, rfl, ?_, eb.trans (x0.trans s1)⟩
    rw [HE.out]; exact (HOE.out.ext s1).down eb.size
  cases hkb : knownB b rb
  · have HE : Hid (lost a ra b rb = []) := by show _ = _; unfold lost; rw [hka, hkb]; rfl
    rw [hka] at CA; clear hka
    rw [hkb] at CB; clear hkb
    go_enter Try.func7, Try.ntmps7
    go_wp2_with fail
    rw [← HW0.out]
    refine (CA.out _ (ha.ext (eb.trans x0))).mono ?_; rintro _ w1 ⟨rfl, s1⟩
    have e1 := x0.trans s1
    go_wp2_with fail
    refine (CB.out _ (hb.ext (eb.trans (x0.trans s1)))).mono ?_; rintro _ w2 ⟨rfl, s2⟩
    go_wp2
    go_ret
    refine ⟨_, rfl, ?_, eb.trans (x0.trans (s1.trans s2))⟩
    rw [HE.out]; exact (HOE.out.ext (s1.trans s2)).down eb.size
  obtain ⟨i, hi, rfl⟩ := knownB_at hka
  obtain ⟨j, hj, rfl⟩ := knownB_at hkb
  have HLV : Hid (lost a (i : Int) b (j : Int) = if a[i].kind = 6 then if b[j].kind = 6 then lostN a[i] b[j] else [] else []) := lost_at hka hkb hi hj
  have hln : a[i].names.length ≤ 1048576 := names_len hL (List.getElem_mem hi)
  rw [hka] at CA; clear hka
  rw [hkb] at CB; clear hkb
  obtain ⟨ba, oa, Ab, cb, An, cn, At, ct, Ak, ck, rfl, hba, hSa, hRa⟩ := ha.at i hi
  obtain ⟨bb, ob, Ab', cb', An', cn', At', ct', Ak', ck', rfl, hbb, hSb, hRb⟩ := hb.at j hj
  have hna := hSa.n.ext eb; have hnb := hSb.n.ext eb
  have HA := Lib.hid ha; have HB := Lib.hid hb
  generalize a[i] = p at *
  generalize b[j] = q at *
  obtain ⟨l0, l1, l2, l3, l4, l5, l6, l7⟩ := hRa.ext eb
  obtain ⟨m0, m1, m2, m3, m4, m5, m6, m7⟩ := hRb.ext eb
  have hkp := hna.len; have hkq := hnb.len
  clear ha hb hRa hRb hSa hSb l0 l2 l3 l4 l6 l7 m0 m2 m3 m4 m6 m7
  have CT := Lib.hid (fun s w h => iContains_c An' q.names cn' s w h)
  have HNB := Lib.hid hnb; clear hnb
  by_cases hp6 : ¬ p.kind = 6
  · have HE : Hid (lost a i b j = []) := by show _ = _; rw [HLV.out, if_neg hp6]
    go_enter Try.func7, Try.ntmps7
    go_wp2_with fail
    rw [← HW0.out]
    refine (CA.out _ (HA.out.ext (eb.trans x0))).mono ?_; rintro _ w1 ⟨rfl, s1⟩
    have e1 := x0.trans s1
    go_wp2_with fail
    refine (CB.out _ (HB.out.ext (eb.trans (x0.trans s1)))).mono ?_; rintro _ w2 ⟨rfl, s2⟩
    have e2 := x0.trans (s1.trans s2)
    go_wp2
    go_ret
    refine ⟨_, rfl, ?_, eb.trans (x0.trans (s1.trans s2))⟩
    rw [HE.out]; exact (HOE.out.ext (s1.trans s2)).down eb.size
  replace hp6 := Classical.not_not.1 hp6
  by_cases hq6 : ¬ q.kind = 6
  · have HE : Hid (lost a i b j = []) := by show _ = _; rw [HLV.out, if_pos hp6, if_neg hq6]
    go_enter Try.func7, Try.ntmps7
    go_wp2_with fail
    rw [← HW0.out]
    refine (CA.out _ (HA.out.ext (eb.trans x0))).mono ?_; rintro _ w1 ⟨rfl, s1⟩
    have e1 := x0.trans s1
    go_wp2_with fail
    refine (CB.out _ (HB.out.ext (eb.trans (x0.trans s1)))).mono ?_; rintro _ w2 ⟨rfl, s2⟩
    have e2 := x0.trans (s1.trans s2)
    go_wp2
    go_ret
    refine ⟨_, rfl, ?_, eb.trans (x0.trans (s1.trans s2))⟩
    rw [HE.out]; exact (HOE.out.ext (s1.trans s2)).down eb.size
  replace hq6 := Classical.not_not.1 hq6
  have HE : Hid (lost a i b j = lostN p q) := by show _ = _; rw [HLV.out, if_pos hp6, if_pos hq6]
  go_enter Try.func7, Try.ntmps7
  go_wp2_with fail
  rw [← HW0.out]
  refine (CA.out _ (HA.out.ext (eb.trans x0))).mono ?_; rintro _ w1 ⟨rfl, s1⟩
  have e1 := x0.trans s1
  go_wp2_with fail
  refine (CB.out _ (HB.out.ext (eb.trans (x0.trans s1)))).mono ?_; rintro _ w2 ⟨rfl, s2⟩
  have e2 := x0.trans (s1.trans s2)
  have HO1 := Lib.hid (HOE.out.ext (s1.trans s2))
  clear s1 s2 HOE CA CB HLV HA HB x0
  go_wp2
  go_loopw [9, 49] (fun t q' wr => ∃ k : Nat, k ≤ p.names.length ∧ q' = .int .i64 k ∧ Hid (OwnL vstr 9 W0 wr t ((p.names.take k).filter (fun s => !hasNm q.names s))) ∧ Ext W0 wr) (fun _ q' _ => p.names.length - (intOf q').toNat)
  case atStart => exact ⟨0, by omega, rfl, by simpa [Hid] using HO1.out, e2⟩
  case round =>
    clear HO1 e2
    obtain ⟨k, hk, rfl, ho, he⟩ := hrel
    by_cases hlt : k < p.names.length
    · obtain ⟨bn, on, rfl, hbn, hcn⟩ := hna.at k hlt
      have HY : Hid (hasNm q.names p.names[k] = false → (p.names.take k).filter (fun s => !hasNm q.names s) ++ [p.names[k]] = (p.names.take (k+1)).filter (fun s => !hasNm q.names s)) := by
        intro h; rw [List.take_succ_eq_append_getElem hlt, List.filter_append]; simp [h]
      have HN : Hid (hasNm q.names p.names[k] = true → (p.names.take k).filter (fun s => !hasNm q.names s) = (p.names.take (k+1)).filter (fun s => !hasNm q.names s)) := by
        intro h; rw [List.take_succ_eq_append_getElem hlt, List.filter_append]; simp [h]
      have hsl : ((p.names.take k).filter (fun s => !hasNm q.names s)).length ≤ k := by
        have h1 := List.length_filter_le (fun s => !hasNm q.names s) (p.names.take k); rw [List.length_take] at h1; omega
      have HB : Hid ((((p.names.take k).filter (fun s => !hasNm q.names s)).length + [p.names[k]].length) * 16 ≤ 140737488355328) := by show _ ≤ _; simp only [List.length_cons, List.length_nil]; omega
      generalize (p.names.take k).filter (fun s => !hasNm q.names s) = L at *
      obtain ⟨L', hL''⟩ : ∃ L', (p.names.take (k+1)).filter (fun s => !hasNm q.names s) = L' := ⟨_, rfl⟩
      rw [hL''] at HY HN
      have HLL := Lib.hid hL''; clear hL''
      have C := Lib.hid (fun w h => CT.out p.names[k] w h)
      generalize p.names[k] = x at *
      clear hna hsl
      generalize hasNm q.names x = z at *
      cases z
      · have HE := Lib.hid (HY.out rfl); clear HY HN
        go_wp2_with fail
        refine (C.out _ (HNB.out.ext he)).mono ?_; rintro _ w3 ⟨rfl, s3⟩
        have HO := Lib.hid (ho.out.ext s3)
        have e3 := he.trans s3
        go_wp2_with (first
          | (at_builtin; go_must (refine wpList_appN rfl (.tmp 62) (.tmp 64) _ rfl E_str (by omega) W0 _ vstr (fun _ => rfl) _ rfl _ _ rfl L [x] _ rfl HO.out e3 rfl HB.out ?_); intro v1 w4 ho1 he1; rw [HE.out, ← HLL.out] at ho1))
        have H1 := Lib.hid ho1; clear ho1
        go_roundw
        case rel => exact ⟨k+1, by omega, by go_num, H1, he1⟩
        case measure => simp [intOf]; omega
      · have HE := Lib.hid (HN.out rfl); clear HY HN
        go_wp2_with fail
        refine (C.out _ (HNB.out.ext he)).mono ?_; rintro _ w3 ⟨rfl, s3⟩
        have ho1 := ho.out.ext s3
        rw [HE.out, ← HLL.out] at ho1
        have H1 := Lib.hid ho1; clear ho1
        go_wp2
        go_roundw
        case rel => exact ⟨k+1, by omega, by go_num, H1, he.trans s3⟩
        case measure => simp [intOf]; omega
    · have HF : Hid ((p.names.take k).filter (fun s => !hasNm q.names s) = lostN p q) := by show _ = _; unfold lostN; rw [List.take_of_length_le (by omega)]
      go_wp2
      go_ret
      refine ⟨_, rfl, ?_, eb.trans he⟩
      rw [HE.out, ← HF.out]; exact ho.out.down eb.size
end Go.Proofs.Ytophjmphjdhjoaa

/- LostNames of the program and of the reference: the walks. -/
namespace Go.Proofs.Ytophjmphjdhjoaa
open Go.RowKit Go.Sort

set_option maxRecDepth 100000 in
set_option maxHeartbeats 4000000 in
theorem sLost_c (A A' : Option Addr) (a b : List DRule) (c c' : Nat) (ra rb : Int) (w : World) (ha : RdD w A a c) (hb : RdD w A' b c') (hsa : ShortD a) (hwa : WfD a) (hsb : ShortD b) (hwb : WfD b) (hL : szD a ≤ 1048576) :
    Calls Try.prog 10 #[vdesc (.slice A a.length c), .int .i64 ra, vdesc (.slice A' b.length c'), .int .i64 rb] w fun e w' => ∃ v, e = .returned v ∧ OwnL vstr 9 w w' v (lost a ra b rb) ∧ Ext w w' := by
  have hl := ha.len
  have hl' := hb.len
  have eb := Ext_alloc (.cells #[.slice A' b.length c'] 26) (Ext_alloc (.cells #[.slice A a.length c] 26) (Ext.refl w))
  have BX := fun w' (e : Ext ((w.alloc (.cells #[.slice A a.length c] 26)).alloc (.cells #[.slice A' b.length c'] 26)) w') => boxed2 e
  have B0 := fun w' e => (BX w' e).1
  have B1 := fun w' e => (BX w' e).2.1
  clear BX
  have CA := Lib.hid (fun w h => sKnown_c A a c ra w h hsa hwa)
  have CB := Lib.hid (fun w h => sKnown_c A' b c' rb w h hsb hwb)
  unfold vdesc at *
  obtain ⟨W0, hW0⟩ : ∃ W0, W0 = ((w.alloc (.cells #[.slice A a.length c] 26)).alloc (.cells #[.slice A' b.length c'] 26)) := ⟨_, rfl⟩
  rw [← hW0] at eb B0 B1
  have hs0 : W0.heap.size = w.heap.size + 1 + 1 := by rw [hW0]; simp
  have OE := OwnL.empty (f := vstr) (e := 9) (Ext.refl W0)
  rw [hs0] at OE
  have HOE := Lib.hid OE; have HW0 := Lib.hid hW0
  have x0 := Ext_alloc (.cells #[] 9) (Ext.refl W0)
  clear OE hW0 hs0
  cases hka : knownB a ra
  · have HE : Hid (lost a ra b rb = []) := by show _ = _; unfold lost; rw [hka]; rfl
    rw [hka] at CA; clear hka
    go_enter Try.func10, Try.ntmps10
    go_wp2_with fail
    rw [← HW0.out]
    refine (CA.out _ (ha.ext (eb.trans x0))).mono ?_; rintro _ w1 ⟨rfl, s1⟩
    have e1 := x0.trans s1
    go_wp2
    go_ret
    refine ⟨_, rfl, ?_, eb.trans (x0.trans s1)⟩
    rw [HE.out]; exact (HOE.out.ext s1).down eb.size
  cases hkb : knownB b rb
  · have HE : Hid (lost a ra b rb = []) := by show _ = _; unfold lost; rw [hka, hkb]; rfl
    rw [hka] at CA; clear hka
    rw [hkb] at CB; clear hkb
    go_enter Try.func10, Try.ntmps10
    go_wp2_with fail
    rw [← HW0.out]
    refine (CA.out _ (ha.ext (eb.trans x0))).mono ?_; rintro _ w1 ⟨rfl, s1⟩
    have e1 := x0.trans s1
    go_wp2_with fail
    refine (CB.out _ (hb.ext (eb.trans (x0.trans s1)))).mono ?_; rintro _ w2 ⟨rfl, s2⟩
    go_wp2
    go_ret
    refine ⟨_, rfl, ?_, eb.trans (x0.trans (s1.trans s2))⟩
    rw [HE.out]; exact (HOE.out.ext (s1.trans s2)).down eb.size
  obtain ⟨i, hi, rfl⟩ := knownB_at hka
  obtain ⟨j, hj, rfl⟩ := knownB_at hkb
  have HLV : Hid (lost a (i : Int) b (j : Int) = if a[i].kind = 6 then if b[j].kind = 6 then lostN a[i] b[j] else [] else []) := lost_at hka hkb hi hj
  have hln : a[i].names.length ≤ 1048576 := names_len hL (List.getElem_mem hi)
  rw [hka] at CA; clear hka
  rw [hkb] at CB; clear hkb
  obtain ⟨ba, oa, Ab, cb, An, cn, At, ct, Ak, ck, rfl, hba, hSa, hRa⟩ := ha.at i hi
  obtain ⟨bb, ob, Ab', cb', An', cn', At', ct', Ak', ck', rfl, hbb, hSb, hRb⟩ := hb.at j hj
  have hna := hSa.n.ext eb; have hnb := hSb.n.ext eb
  have HA := Lib.hid ha; have HB := Lib.hid hb
  generalize a[i] = p at *
  generalize b[j] = q at *
  obtain ⟨l0, l1, l2, l3, l4, l5, l6, l7⟩ := hRa.ext eb
  obtain ⟨m0, m1, m2, m3, m4, m5, m6, m7⟩ := hRb.ext eb
  have hkp := hna.len; have hkq := hnb.len
  clear ha hb hRa hRb hSa hSb l0 l2 l3 l4 l6 l7 m0 m2 m3 m4 m6 m7
  have CT := Lib.hid (fun s w h => sContains_c An' q.names cn' s w h)
  have HNB := Lib.hid hnb; clear hnb
  by_cases hp6 : ¬ p.kind = 6
  · have HE : Hid (lost a i b j = []) := by show _ = _; rw [HLV.out, if_neg hp6]
    go_enter Try.func10, Try.ntmps10
    go_wp2_with fail
    rw [← HW0.out]
    refine (CA.out _ (HA.out.ext (eb.trans x0))).mono ?_; rintro _ w1 ⟨rfl, s1⟩
    have e1 := x0.trans s1
    go_wp2_with fail
    refine (CB.out _ (HB.out.ext (eb.trans (x0.trans s1)))).mono ?_; rintro _ w2 ⟨rfl, s2⟩
    have e2 := x0.trans (s1.trans s2)
    go_wp2
    go_ret
    refine ⟨_, rfl, ?_, eb.trans (x0.trans (s1.trans s2))⟩
    rw [HE.out]; exact (HOE.out.ext (s1.trans s2)).down eb.size
  replace hp6 := Classical.not_not.1 hp6
  by_cases hq6 : ¬ q.kind = 6
  · have HE : Hid (lost a i b j = []) := by show _ = _; rw [HLV.out, if_pos hp6, if_neg hq6]
    go_enter Try.func10, Try.ntmps10
    go_wp2_with fail
    rw [← HW0.out]
    refine (CA.out _ (HA.out.ext (eb.trans x0))).mono ?_; rintro _ w1 ⟨rfl, s1⟩
    have e1 := x0.trans s1
    go_wp2_with fail
    refine (CB.out _ (HB.out.ext (eb.trans (x0.trans s1)))).mono ?_; rintro _ w2 ⟨rfl, s2⟩
    have e2 := x0.trans (s1.trans s2)
    go_wp2
    go_ret
    refine ⟨_, rfl, ?_, eb.trans (x0.trans (s1.trans s2))⟩
    rw [HE.out]; exact (HOE.out.ext (s1.trans s2)).down eb.size
  replace hq6 := Classical.not_not.1 hq6
  have HE : Hid (lost a i b j = lostN p q) := by show _ = _; rw [HLV.out, if_pos hp6, if_pos hq6]
  go_enter Try.func10, Try.ntmps10
  go_wp2_with fail
  rw [← HW0.out]
  refine (CA.out _ (HA.out.ext (eb.trans x0))).mono ?_; rintro _ w1 ⟨rfl, s1⟩
  have e1 := x0.trans s1
  go_wp2_with fail
  refine (CB.out _ (HB.out.ext (eb.trans (x0.trans s1)))).mono ?_; rintro _ w2 ⟨rfl, s2⟩
  have e2 := x0.trans (s1.trans s2)
  have HO1 := Lib.hid (HOE.out.ext (s1.trans s2))
  clear s1 s2 HOE CA CB HLV HA HB x0
  go_wp2
  go_loopw [9, 10] (fun t q' wr => ∃ k : Nat, k ≤ p.names.length ∧ q' = .int .i64 k ∧ Hid (OwnL vstr 9 W0 wr t ((p.names.take k).filter (fun s => !hasNm q.names s))) ∧ Ext W0 wr) (fun _ q' _ => p.names.length - (intOf q').toNat)
  case atStart => exact ⟨0, by omega, rfl, by simpa [Hid] using HO1.out, e2⟩
  case round =>
    clear HO1 e2
    obtain ⟨k, hk, rfl, ho, he⟩ := hrel
    by_cases hlt : k < p.names.length
    · obtain ⟨bn, on, rfl, hbn, hcn⟩ := hna.at k hlt
      have HY : Hid (hasNm q.names p.names[k] = false → (p.names.take k).filter (fun s => !hasNm q.names s) ++ [p.names[k]] = (p.names.take (k+1)).filter (fun s => !hasNm q.names s)) := by
        intro h; rw [List.take_succ_eq_append_getElem hlt, List.filter_append]; simp [h]
      have HN : Hid (hasNm q.names p.names[k] = true → (p.names.take k).filter (fun s => !hasNm q.names s) = (p.names.take (k+1)).filter (fun s => !hasNm q.names s)) := by
        intro h; rw [List.take_succ_eq_append_getElem hlt, List.filter_append]; simp [h]
      have hsl : ((p.names.take k).filter (fun s => !hasNm q.names s)).length ≤ k := by
        have h1 := List.length_filter_le (fun s => !hasNm q.names s) (p.names.take k); rw [List.length_take] at h1; omega
      have HB : Hid ((((p.names.take k).filter (fun s => !hasNm q.names s)).length + [p.names[k]].length) * 16 ≤ 140737488355328) := by show _ ≤ _; simp only [List.length_cons, List.length_nil]; omega
      generalize (p.names.take k).filter (fun s => !hasNm q.names s) = L at *
      obtain ⟨L', hL''⟩ : ∃ L', (p.names.take (k+1)).filter (fun s => !hasNm q.names s) = L' := ⟨_, rfl⟩
      rw [hL''] at HY HN
      have HLL := Lib.hid hL''; clear hL''
      have C := Lib.hid (fun w h => CT.out p.names[k] w h)
      generalize p.names[k] = x at *
      clear hna hsl
      generalize hasNm q.names x = z at *
      cases z
      · have HE := Lib.hid (HY.out rfl); clear HY HN
        go_wp2_with fail
        refine wp_region_quiet_below (by kernel_rfl) (by kernel_rfl) ?_
        repeat (go_big_quiet_step ((go_at_call 11; exact Calls.regrown_of (C.out _ (HNB.out.ext (by first | assumption | exact Ext_regrown _ _ he))))))
        refine wpQuiet_nil ?_
        rintro w3 ⟨⟨nq, osq⟩, hq⟩
        have ew3 := ext_of_q hq
        clear hq nq osq
        have s3 := ew3
        have HO := Lib.hid (ho.out.ext s3)
        have e3 := he.trans s3
        go_wp2_with (first
          | (at_builtin; go_must (refine wpList_appN rfl (.tmp 69) (.tmp 79) _ rfl E_str (by omega) W0 _ vstr (fun _ => rfl) _ rfl _ _ rfl L [x] _ rfl HO.out e3 rfl HB.out ?_); intro v1 w4 ho1 he1; rw [HE.out, ← HLL.out] at ho1))
        have H1 := Lib.hid ho1; clear ho1
        go_roundw
        case rel => exact ⟨k+1, by omega, by go_num, H1, he1⟩
        case measure => simp [intOf]; omega
      · have HE := Lib.hid (HN.out rfl); clear HY HN
        go_wp2_with fail
        refine wp_region_quiet_below (by kernel_rfl) (by kernel_rfl) ?_
        repeat (go_big_quiet_step ((go_at_call 11; exact Calls.regrown_of (C.out _ (HNB.out.ext (by first | assumption | exact Ext_regrown _ _ he))))))
        refine wpQuiet_nil ?_
        rintro w3 ⟨⟨nq, osq⟩, hq⟩
        have ew3 := ext_of_q hq
        clear hq nq osq
        have s3 := ew3
        have ho1 := ho.out.ext s3
        rw [HE.out, ← HLL.out] at ho1
        have H1 := Lib.hid ho1; clear ho1
        go_wp2
        go_roundw
        case rel => exact ⟨k+1, by omega, by go_num, H1, he.trans s3⟩
        case measure => simp [intOf]; omega
    · have HF : Hid ((p.names.take k).filter (fun s => !hasNm q.names s) = lostN p q) := by show _ = _; unfold lostN; rw [List.take_of_length_le (by omega)]
      go_wp2
      go_ret
      refine ⟨_, rfl, ?_, eb.trans he⟩
      rw [HE.out, ← HF.out]; exact ho.out.down eb.size
end Go.Proofs.Ytophjmphjdhjoaa

/- ExtendsRule, Extends, SameFormat of the reference: the walks (from XExt6, for seats without the program's). -/
namespace Go.Proofs.Ytophjmphjdhjoaa
open Go.RowKit Go.Sort

theorem knownE_at {a : List DRule} {ra : Int} (h : knownB a ra = true) : ∃ i : Nat, ∃ _ : i < a.length, ra = (i : Int) := by
  unfold knownB at h; simp at h; exact ⟨ra.toNat, by omega, by omega⟩
theorem known_desc {ds : List DRule} {i : Int} (h : knownB ds i = true) : descOk ds = true := by unfold knownB at h; rw [Bool.and_eq_true] at h; exact h.1
set_option maxRecDepth 100000 in
set_option maxHeartbeats 4000000 in
theorem sExtRule_c (A A' : Option Addr) (a b : List DRule) (c c' : Nat) (ra rb : Int) (w : World) (ha : RdD w A a c) (hb : RdD w A' b c') (hsa : ShortD a) (hwa : WfD a) (hsb : ShortD b) (hwb : WfD b) :
    Gives Try.prog 52 #[vdesc (.slice A a.length c), .int .i64 ra, vdesc (.slice A' b.length c'), .int .i64 rb] w (.bool (extRule a b ra rb)) := by
  have eb := Ext_alloc (.cells #[.slice A' b.length c'] 26) (Ext_alloc (.cells #[.slice A a.length c] 26) (Ext.refl w))
  have BX := fun w' (e : Ext ((w.alloc (.cells #[.slice A a.length c] 26)).alloc (.cells #[.slice A' b.length c'] 26)) w') => boxed2 e
  have B0 := fun w' e => (BX w' e).1
  have B1 := fun w' e => (BX w' e).2.1
  clear BX
  have CA := Lib.hid (fun w h => sKnown_c A a c ra w h hsa hwa)
  have CB := Lib.hid (fun w h => sKnown_c A' b c' rb w h hsb hwb)
  have HA := Lib.hid ha; have HB := Lib.hid hb
  have HSA := Lib.hid hsa; have HSB := Lib.hid hsb
  clear ha hb hsa hsb hwa hwb
  have SX : Hid (∀ (i j : Nat), i < a.length → j < b.length → descOk a = true → descOk b = true → ∀ w', Ext w w' → Gives Try.prog 64 #[vdesc (.slice A a.length c), .int .i64 (i : Int), vdesc (.slice A' b.length c'), .int .i64 (j : Int)] w' (.bool (ext a b i j))) :=
    fun i j hi hj hva hvb w' e => sExt_c A A' a b c c' w HA.out HB.out hva hvb HSA.out HSB.out (i + 1) i (Nat.lt_succ_self _) hi j hj w' e
  unfold vdesc at *
  cases hka : knownB a ra
  · have HE : Hid (extRule a b ra rb = false) := by show _ = _; unfold extRule; rw [hka]; rfl
    rw [HE.out]
    rw [hka] at CA; clear hka
    go_enter Try.func52, Try.ntmps52
    go_wp2_with fail
    refine (CA.out _ (HA.out.ext eb)).mono ?_; rintro _ w1 ⟨rfl, s1⟩
    go_wp2
    go_ret
    exact ⟨rfl, eb.trans s1⟩
  cases hkb : knownB b rb
  · have HE : Hid (extRule a b ra rb = false) := by show _ = _; unfold extRule; rw [hka, hkb]; rfl
    rw [HE.out]
    rw [hka] at CA; rw [hkb] at CB; clear hka hkb
    go_enter Try.func52, Try.ntmps52
    go_wp2_with fail
    refine (CA.out _ (HA.out.ext eb)).mono ?_; rintro _ w1 ⟨rfl, s1⟩
    have e1 := eb.trans s1
    replace B1 := fun w' (e : Ext w1 w') => B1 w' (Ext.trans s1 e)
    go_wp2_with fail
    refine (CB.out _ (HB.out.ext e1)).mono ?_; rintro _ w2 ⟨rfl, s2⟩
    go_wp2
    go_ret
    exact ⟨rfl, e1.trans s2⟩
  have HVA := Lib.hid (known_desc hka); have HVB := Lib.hid (known_desc hkb)
  obtain ⟨i, hi, rfl⟩ := knownE_at hka
  obtain ⟨j, hj, rfl⟩ := knownE_at hkb
  have HE : Hid (extRule a b (i : Int) (j : Int) = ext a b i j) := by show _ = _; unfold extRule; rw [hka, hkb]; simp
  rw [HE.out]
  rw [hka] at CA; rw [hkb] at CB; clear hka hkb HE
  have C := Lib.hid (SX.out i j hi hj HVA.out HVB.out)
  generalize ext a b i j = z at *
  go_enter Try.func52, Try.ntmps52
  go_wp2_with fail
  refine (CA.out _ (HA.out.ext eb)).mono ?_; rintro _ w1 ⟨rfl, s1⟩
  have e1 := eb.trans s1
  replace B0 := fun w' (e : Ext w1 w') => B0 w' (Ext.trans s1 e)
  replace B1 := fun w' (e : Ext w1 w') => B1 w' (Ext.trans s1 e)
  go_wp2_with fail
  refine (CB.out _ (HB.out.ext e1)).mono ?_; rintro _ w2 ⟨rfl, s2⟩
  have e2 := e1.trans s2
  replace B0 := fun w' (e : Ext w2 w') => B0 w' (Ext.trans s2 e)
  replace B1 := fun w' (e : Ext w2 w') => B1 w' (Ext.trans s2 e)
  clear s1 s2 e1 eb CA CB
  go_wp2_with fail
  refine (C.out _ e2).mono ?_; rintro _ w3 ⟨rfl, s3⟩
  go_wp2
  go_ret
  exact ⟨rfl, e2.trans s3⟩
set_option maxRecDepth 100000 in
set_option maxHeartbeats 4000000 in
theorem sExtD_c (A A' : Option Addr) (a b : List DRule) (c c' : Nat) (w : World) (ha : RdD w A a c) (hb : RdD w A' b c') (hsa : ShortD a) (hwa : WfD a) (hsb : ShortD b) (hwb : WfD b) :
    Gives Try.prog 35 #[vdesc (.slice A a.length c), vdesc (.slice A' b.length c')] w (.bool (extD a b)) := by
  have eb := Ext_alloc (.cells #[.slice A' b.length c'] 26) (Ext_alloc (.cells #[.slice A a.length c] 26) (Ext.refl w))
  have BX := fun w' (e : Ext ((w.alloc (.cells #[.slice A a.length c] 26)).alloc (.cells #[.slice A' b.length c'] 26)) w') => boxed2 e
  have B0 := fun w' e => (BX w' e).1
  have B1 := fun w' e => (BX w' e).2.1
  clear BX
  have hla := ha.len; have hlb := hb.len
  have RA := Lib.hid (fun w => sRoot_c A a c w hla)
  have RB := Lib.hid (fun w => sRoot_c A' b c' w hlb)
  have CX : Hid (∀ w', Ext w w' → Gives Try.prog 52 #[vdesc (.slice A a.length c), .int .i64 ((a.length : Int) - 1), vdesc (.slice A' b.length c'), .int .i64 ((b.length : Int) - 1)] w' (.bool (extD a b))) :=
    fun w' e => sExtRule_c A A' a b c c' _ _ w' (ha.ext e) (hb.ext e) hsa hwa hsb hwb
  clear ha hb hsa hwa hsb hwb
  unfold vdesc at *
  generalize extD a b = z at *
  obtain ⟨W1, hW1⟩ : ∃ W1, W1 = ((w.alloc (.cells #[.slice A a.length c] 26)).alloc (.cells #[.slice A' b.length c'] 26)) := ⟨_, rfl⟩
  go_enter Try.func35, Try.ntmps35
  go_wp2_with fail
  refine wp_region_quiet_below (by kernel_rfl) (by kernel_rfl) ?_
  repeat (go_big_quiet_step ((first | (go_at_call 53; first | exact Calls.regrown_of (RA.out _) | exact Calls.regrown_of (RB.out _)) | (go_at_call 52; exact Calls.regrown_of (CX.out _ (eb.trans (Ext_regrown _ _ (Ext.refl _))))))))
  refine wpQuiet_nil ?_
  rintro w2 ⟨⟨nq, osq⟩, hq⟩
  have ew2 := ext_of_q hq
  clear hq nq osq
  go_wp2
  go_ret
  exact ⟨rfl, eb.trans ew2⟩
set_option maxRecDepth 100000 in
set_option maxHeartbeats 4000000 in
theorem sSame_c (A A' : Option Addr) (a b : List DRule) (c c' : Nat) (w : World) (ha : RdD w A a c) (hb : RdD w A' b c') (hsa : ShortD a) (hwa : WfD a) (hsb : ShortD b) (hwb : WfD b) :
    Gives Try.prog 17 #[vdesc (.slice A a.length c), vdesc (.slice A' b.length c')] w (.bool (sameF a b)) := by
  have eb := Ext_alloc (.cells #[.slice A' b.length c'] 26) (Ext_alloc (.cells #[.slice A a.length c] 26) (Ext.refl w))
  have BX := fun w' (e : Ext ((w.alloc (.cells #[.slice A a.length c] 26)).alloc (.cells #[.slice A' b.length c'] 26)) w') => boxed2 e
  have B0 := fun w' e => (BX w' e).1
  have B1 := fun w' e => (BX w' e).2.1
  clear BX
  have C1 := Lib.hid (fun w' (e : Ext w w') => sExtD_c A A' a b c c' w' (ha.ext e) (hb.ext e) hsa hwa hsb hwb)
  have C2 := Lib.hid (fun w' (e : Ext w w') => sExtD_c A' A b a c' c w' (hb.ext e) (ha.ext e) hsb hwb hsa hwa)
  clear ha hb hsa hwa hsb hwb
  unfold vdesc at *
  unfold sameF
  generalize extD a b = z at *
  generalize extD b a = y at *
  cases z
  · go_enter Try.func17, Try.ntmps17
    go_wp2_with fail
    refine (C1.out _ eb).mono ?_; rintro _ w1 ⟨rfl, s1⟩
    go_wp2
    go_ret
    exact ⟨ret_bool (by simp), eb.trans s1⟩
  · go_enter Try.func17, Try.ntmps17
    go_wp2_with fail
    refine (C1.out _ eb).mono ?_; rintro _ w1 ⟨rfl, s1⟩
    have e1 := eb.trans s1
    replace B0 := fun w' (e : Ext w1 w') => B0 w' (Ext.trans s1 e)
    replace B1 := fun w' (e : Ext w1 w') => B1 w' (Ext.trans s1 e)
    go_wp2_with fail
    refine (C2.out _ e1).mono ?_; rintro _ w2 ⟨rfl, s2⟩
    go_wp2
    go_ret
    exact ⟨ret_bool (by simp), e1.trans s2⟩
end Go.Proofs.Ytophjmphjdhjoaa

/- Comparison of descriptions and registries. -/
namespace Go.Proofs.Ytophjmphjdhjoaa
open Go.RowKit Go.Sort

set_option maxRecDepth 100000 in
set_option maxHeartbeats 4000000 in
theorem sEqualDescriptions_c (A A' : Option Addr) (ds es : List DRule) (c c' : Nat) (w : World) (h : RdD w A ds c) (h' : RdD w A' es c') (hs : ShortD ds) (hs' : ShortD es) :
    Gives Try.prog 15 #[vdesc (.slice A ds.length c), vdesc (.slice A' es.length c')] w (.bool (eqD ds es)) := by
  have hl := h.len; have hl' := h'.len
  have eb := Ext_alloc (.cells #[.slice A' es.length c'] 26) (Ext_alloc (.cells #[.slice A ds.length c] 26) (Ext.refl w))
  have BX := fun w' (e : Ext ((w.alloc (.cells #[.slice A ds.length c] 26)).alloc (.cells #[.slice A' es.length c'] 26)) w') => boxed2 e
  have B0 := fun w' e => (BX w' e).1 0
  have B1 := fun w' e => (BX w' e).2.1 0
  simp only [List.getElem?_toArray, List.getElem?_cons_zero] at B0 B1
  clear BX
  unfold vdesc
  by_cases hn : ds.length = es.length
  · have hb1 : ((ds.length : Int) != (es.length : Int)) = false := by simp [hn]
    have H := Lib.hid hn; clear hn
    go_enter Try.func15, Try.ntmps15
    go_wp2
    go_loopw [5] (fun i wr => ∃ k : Nat, k ≤ ds.length ∧ i = .int .i64 k ∧ Hid (∀ j (h1 : j < ds.length) (h2 : j < es.length), j < k → eqR ds[j] es[j] = true) ∧ Ext ((w.alloc (.cells #[.slice A ds.length c] 26)).alloc (.cells #[.slice A' es.length c'] 26)) wr) (fun i _ => ds.length - (intOf i).toNat)
    case atStart => exact ⟨0, by omega, rfl, (fun j _ _ hj => by omega), Ext.refl _⟩
    case round =>
      obtain ⟨k, hk, rfl, ht, he⟩ := hrel
      by_cases hlt : k < ds.length
      · have hlt' : k < es.length := by have := H.out; omega
        obtain ⟨b, off, Ab, cb, An, cn, At, ct, Ak, ck, rfl, hb, hS, hR⟩ := h.at k hlt
        obtain ⟨b', off', Ab', cb', An', cn', At', ct', Ak', ck', rfl, hb', hS', hR'⟩ := h'.at k hlt'
        have s1 := hs _ (List.getElem_mem hlt); have s2 := hs' _ (List.getElem_mem hlt')
        have NO : Hid (eqR ds[k] es[k] = false → eqD ds es = false) := eqAll_take _ ds es k hlt hlt'
        have YES : Hid (eqR ds[k] es[k] = true → ∀ j (h1 : j < ds.length) (h2 : j < es.length), j < k + 1 → eqR ds[j] es[j] = true) := by
          intro hy j h1 h2 hj
          rcases (by omega : j < k ∨ j = k) with hj | rfl
          · exact ht.out j h1 h2 hj
          · exact hy
        generalize ds[k] = r at *
        generalize es[k] = q at *
        have CE := Lib.hid (fun w h h' => l4Equal_c r q Ab cb An cn At ct Ak ck Ab' cb' An' cn' At' ct' Ak' ck' w h h' s1 s2)
        generalize eqR r q = z at *
        replace hR := hR.ext eb
        replace hR' := hR'.ext eb
        obtain ⟨k0, k1, k2, k3, k4, k5, k6, k7⟩ := hR
        obtain ⟨j0, j1, j2, j3, j4, j5, j6, j7⟩ := hR'
        unfold vrule at CE
        have H1 := Lib.hid (fun w' (e : Ext _ w') => hS.ext (eb.trans e)); have H2 := Lib.hid (fun w' (e : Ext _ w') => hS'.ext (eb.trans e))
        clear h h' s1 s2 hS hS' hs hs'
        have HT := ht; clear ht
        go_wp2_with fail
        refine wp_region_quiet_below (by kernel_rfl) (by kernel_rfl) ?_
        repeat (go_big_quiet_step ((go_at_call 32; exact Calls.regrown_of (CE.out _ (H1.out _ (by first | assumption | exact Ext_regrown _ _ he)) (H2.out _ (by first | assumption | exact Ext_regrown _ _ he))))))
        refine wpQuiet_nil ?_
        rintro w1 ⟨⟨nq, osq⟩, hq⟩
        have ew1 := ext_of_q hq
        clear hq nq osq
        have he1 := he.trans ew1
        cases z
        · have NO' := Lib.hid (NO.out rfl); clear NO YES
          go_wp2
          go_ret
          exact ⟨ret_bool NO'.out.symm, eb.trans he1⟩
        · have YES' := Lib.hid (YES.out rfl); clear NO YES
          go_wp2
          go_roundw
          case rel => exact ⟨k+1, by omega, by go_num, YES'.out, he1⟩
          case measure => simp [intOf]; omega
      · have hk' : k = ds.length := by omega
        have HE : Hid (eqD ds es = true) := eqAll_all _ _ _ H.out (fun j h1 h2 => ht.out j h1 h2 (by omega))
        go_wp2
        go_ret
        exact ⟨ret_bool HE.out.symm, eb.trans he⟩
  · have hb1 : ((ds.length : Int) != (es.length : Int)) = true := by simp; omega
    have HE : Hid (eqD ds es = false) := eqAll_len _ _ _ hn
    go_enter Try.func15, Try.ntmps15
    go_wp2
    go_ret
    exact ⟨ret_bool HE.out.symm, eb⟩
end Go.Proofs.Ytophjmphjdhjoaa

/- The walk of the law on renaming. -/
namespace Go.Proofs.Ytophjmphjdhjoaa
open Go.RowKit Go.Sort

theorem sum_le {α : Type} (f : α → Nat) (m : Nat) : ∀ l : List α, (∀ x ∈ l, f x ≤ m) → (l.map f).sum ≤ l.length * m
  | [], _ => by simp
  | a :: t, h => by
    have h1 := h a (List.mem_cons_self ..)
    have h2 := sum_le f m t (fun x hx => h x (List.mem_cons_of_mem _ hx))
    rw [List.map_cons, List.sum_cons, List.length_cons, Nat.add_mul]; omega
theorem SmR.sz {r : DRule} (h : SmR r) : szRl r ≤ 1200 := by
  have h1 := h.lens; have h2 := h.nm
  have h3 := sum_le ByteArray.size 60 r.names h.nms
  have h4 : r.names.length * 60 ≤ 16 * 60 := Nat.mul_le_mul_right 60 h1.2.1
  unfold szRl szStrs; omega
theorem SmD.sz {ds : List DRule} (h : SmD ds) : szD ds ≤ 100000 := by
  have h1 := sum_le szRl 1200 ds (fun r hr => (h.2 r hr).sz)
  have h2 : ds.length * 1200 ≤ 24 * 1200 := Nat.mul_le_mul_right 1200 h.1
  have h3 := h.1
  unfold szD; omega
theorem wf_i64 {x : Int} (h : -1000000 ≤ x ∧ x ≤ 1000000) : (Lit.int .i64 x).wf = true := by
  have h1 : IntKind.i64.min ≤ x := Int.le_trans (by decide : IntKind.i64.min ≤ -1000000) h.1
  have h2 : x ≤ IntKind.i64.max := Int.le_trans h.2 (by decide : (1000000 : Int) ≤ IntKind.i64.max)
  simp only [Lit.wf, decide_eq_true h1, decide_eq_true h2, Bool.and_self]
theorem SmR.wf {r : DRule} (h : SmR r) : WfR r :=
  ⟨by have := h.nm; omega, fun s hs => by have := h.nms s hs; omega, wf_i64 (by have := h.kind; omega), wf_i64 (by have := h.ints.1; omega), fun x hx => wf_i64 (by have := h.ints.2.1 x hx; omega), fun x hx => wf_i64 (by have := h.ints.2.2 x hx; omega)⟩
theorem SmD.wf {ds : List DRule} (h : SmD ds) : WfD ds := fun r hr => (h.2 r hr).wf
theorem SmD.short {ds : List DRule} (h : SmD ds) : ShortD ds := shortD_of (by have := h.sz; omega)
theorem SmD.ren {ds : List DRule} (h : SmD ds) {f t : ByteArray} (ht : t.size ≤ 60) : SmD (renD ds f t) := by
  unfold renD
  split
  · rename_i hok
    unfold renOk at hok
    rw [Bool.and_eq_true, decide_eq_true_eq] at hok
    obtain ⟨hk, _⟩ := findR_spec hok.1
    refine ⟨by rw [setNm_len]; exact h.1, fun q hq => ?_⟩
    rcases mem_setNm hk hq with h1 | rfl
    · exact h.2 q h1
    · have := h.2 _ (List.getElem_mem hk)
      exact ⟨ht, this.lens, this.nms, this.kind, this.ints⟩
  · exact h
theorem OwnD.rdD {w0 w : World} {v : Value} {ps : List RV} (h : OwnD w0 w v ps) {ds : List DRule} (he : rulesOf ps = ds) (hs : SmD ds) : ∃ A c, v = .slice A ds.length c ∧ RdD w A ds c := by
  subst he
  exact h.rd (by have := hs.len; omega) (fun p hp => (hs.2 _ (List.mem_map_of_mem hp)).short)
set_option maxRecDepth 100000 in
set_option maxHeartbeats 8000000 in
theorem lawRenaming_c (A : Option Addr) (l : List UInt8) (c : Nat) (w : World) (h : Rd0 vu8 w A l c) :
    Gives Try.prog 4 #[.slice A l.length c] w (.bool true) := by
  have hl := h.len
  by_cases hL : (1048576 : Int) < (l.length : Int)
  · have HD : Hid (decide ((1048576 : Int) < (l.length : Int)) = true) := by show _ = _; simpa using hL
    go_enter Try.func4, Try.ntmps4
    go_wp2_with fail
    refine (big_c _ _ _ _ h).mono ?_; rintro _ w1 ⟨rfl, he1⟩; rw [HD.out]
    go_wp2
    go_ret
    exact ⟨rfl, he1⟩
  have HD : Hid (decide ((1048576 : Int) < (l.length : Int)) = false) := by show _ = _; simpa using hL
  have hA : Bs w A l c := ⟨h, by omega⟩
  clear hL
  have CI := Lib.hid (fun A ds c f t w h hz hw ht => iRen_c A ds c f t w h hz hw ht)
  have CS := Lib.hid (fun A ds c f t w h hz hw ht => sRen_c A ds c f t w h hz hw ht)
  have CE := Lib.hid (fun A A' ds es c c' w h h' hs hs' => sEqualDescriptions_c A A' ds es c c' w h h' hs hs')
  have CV := Lib.hid (fun A ds c w hd hs hw => sValidDesc_c A ds c w hd hs hw)
  have CF := Lib.hid (fun A A' a b c c' w ha hb hsa hwa hsb hwb => sSame_c A A' a b c c' w ha hb hsa hwa hsb hwb)
  have CD := Lib.hid (fun w hA => drawRename_c A l c w hA)
  unfold vdesc at CI CS CE CV CF CD
  go_enter Try.func4, Try.ntmps4
  go_wp2_with fail
  refine (big_c _ _ _ _ h).mono ?_; rintro _ w1 ⟨rfl, he1⟩; rw [HD.out]
  go_wp2_with fail
  refine (CD.out _ (hA.ext he1)).mono ?_; rintro _ w2 ⟨v, ps, f, t, rfl, hSM, hO, hf, ht, he2⟩
  obtain ⟨ds, hds⟩ : ∃ ds, rulesOf ps = ds := ⟨_, rfl⟩
  rw [hds] at hSM
  obtain ⟨A1, c1, rfl, r1⟩ := hO.rdD hds hSM
  have e2 := he1.trans he2
  have hsz := Lib.hid (show szD ds ≤ 1048576 by have := hSM.sz; omega)
  have hwf := Lib.hid hSM.wf; have hsh := Lib.hid hSM.short
  have HSR := Lib.hid (hSM.ren (f := f) ht)
  have HF1 : Hid (f.size ≤ 9223372036854775807) := by show _ ≤ _; omega
  have HT1 : Hid (t.size ≤ 9223372036854775807) := by show _ ≤ _; omega
  have HSM := Lib.hid hSM
  have R1 := Lib.hid r1
  clear hO hds hSM he1 he2 r1
  have x2 := Ext_alloc (.cells #[.slice A1 ds.length c1] 26) (Ext.refl w2)
  have B2 := fun w' (e : Ext (w2.alloc (.cells #[.slice A1 ds.length c1] 26)) w') => boxed e
  have HR0 : Hid (renOk ds f t = true → descOk (renD ds f t) = true ∧ sameF (renD ds f t) ds = descOk ds ∧ renOk (renD ds f t) t f = descOk ds ∧ (descOk ds = true → renD (renD ds f t) t f = ds)) := fun hh => ren_law hh
  have HR1 : Hid (renOk ds f t = false → renD ds f t = ds) := fun hh => by unfold renD; rw [hh]; rfl
  go_wp2_with fail
  refine (CI.out _ _ _ _ _ _ (R1.out.ext x2) hsz.out hwf.out HT1.out).mono ?_; rintro _ w3 ⟨v3, ps3, rfl, hps3, hO3, he3⟩
  generalize hX : renD ds f t = X at *
  generalize hz : renOk ds f t = z at *
  have HXE := Lib.hid hX; have HZE := Lib.hid hz; clear hX hz
  obtain ⟨A3, c3, rfl, r3⟩ := hO3.rdD hps3 HSR.out
  have e3 := x2.trans he3
  have x3 := Ext_alloc (.cells #[.slice A3 X.length c3] 26) (Ext.refl w3)
  have B3 := fun w' (e : Ext (w3.alloc (.cells #[.slice A3 X.length c3] 26)) w') => boxed e
  have HszX := Lib.hid (show szD X ≤ 1048576 by have := HSR.out.sz; omega)
  have HwfX := Lib.hid HSR.out.wf; have HshX := Lib.hid HSR.out.short
  have R3 := Lib.hid r3
  replace B2 := fun w' e => B2 w' (he3.trans e)
  clear hO3 hps3 r3
  have b2 : _ = some (Value.slice A1 ds.length c1) := B2 _ (x3) 0
  go_wp2_with fail
  refine (CS.out _ _ _ _ _ _ (R1.out.ext (e3.trans x3)) hsz.out hwf.out HT1.out).mono ?_; rintro _ w4 ⟨v4, ps4, rfl, hps4, hO4, he4⟩
  rw [HXE.out] at hps4
  rw [HZE.out]
  obtain ⟨A4, c4, rfl, _⟩ := hO4.rdD hps4 HSR.out
  have x4 := Ext_alloc (.cells #[.slice A4 X.length c4] 26) (Ext.refl w4)
  have f4 := (x3.trans he4).trans x4
  have b2' : _ = some (Value.slice A1 ds.length c1) := B2 _ f4 0
  have b3' : _ = some (Value.slice A3 X.length c3) := B3 _ (he4.trans x4) 0
  clear hO4 hps4 b2
  cases z
  · have HE : Hid (eqD X ds = true) := by show _ = _; rw [HR1.out rfl]; exact eqD_refl ds
    go_wp2_with fail
    refine (CE.out _ _ _ _ _ _ _ ((R3.out.ext f4)) (R1.out.ext (e3.trans f4)) HshX.out hsh.out).mono ?_; rintro _ w5 ⟨rfl, e5⟩
    rw [HE.out]
    go_wp2
    go_ret
    exact ⟨rfl, (((e2.trans e3).trans f4).trans e5)⟩
  · obtain ⟨k1, k2, k3, k4⟩ := HR0.out rfl
    have K1 := Lib.hid k1; have K2 := Lib.hid k2; have K3 := Lib.hid k3; have K4 := Lib.hid k4
    clear k1 k2 k3 k4 HR0 HR1
    have HSY := Lib.hid (HSR.out.ren (f := t) (t := f) hf)
    go_wp2_with fail
    refine (CI.out _ _ _ _ _ _ (R3.out.ext f4) HszX.out HwfX.out HF1.out).mono ?_; rintro _ w5 ⟨v5, ps5, rfl, hps5, hO5, he5⟩
    rw [K3.out]
    generalize hY : renD X t f = Y at *
    obtain ⟨A5, c5, rfl, r5⟩ := hO5.rdD hps5 HSY.out
    have x5 := Ext_alloc (.cells #[.slice A5 Y.length c5] 26) (Ext.refl w5)
    have f5 := (f4.trans he5).trans x5
    have P2 := fun w' e => B2 w' (f5.trans e) 0
    have P3 := fun w' e => B3 w' (((he4.trans x4).trans (he5.trans x5)).trans e) 0
    have P5 := fun w' (e : Ext (w5.alloc (.cells #[.slice A5 Y.length c5] 26)) w') => boxed e 0
    have RX := Lib.hid (R3.out.ext f5); have RD := Lib.hid (R1.out.ext (e3.trans f5)); have RY := Lib.hid (r5.ext x5)
    have HshY := Lib.hid HSY.out.short
    have KY := Lib.hid (K4.out)
    have HEX := Lib.hid ((e2.trans e3).trans f5)
    clear hO5 hps5 r5 b2' b3' B2 B3 K4 K3 e2 e3 f4 f5 he3 he4 he5 x2 x3 x4 x5
    obtain ⟨W, hW⟩ : ∃ W, W = (w5.alloc (.cells #[.slice A5 Y.length c5] 26)) := ⟨_, rfl⟩
    rw [← hW] at P2 P3 P5 RX RD RY HEX
    have Q2 : ∀ w', Ext W w' → w'.cell? ⟨w2.heap.size, 0, none⟩ = some (Value.slice A1 ds.length c1) := P2
    have Q3 : ∀ w', Ext W w' → w'.cell? ⟨w3.heap.size, 0, none⟩ = some (Value.slice A3 X.length c3) := P3
    have Q5 : ∀ w', Ext W w' → w'.cell? ⟨w5.heap.size, 0, none⟩ = some (Value.slice A5 Y.length c5) := P5
    have HW := Lib.hid hW
    clear hW P2 P3 P5
    have CVX : Hid (∀ w', Ext W w' → Calls Try.prog 16 #[.agg #[.slice A3 X.length c3]] w' fun e w'' => e = .returned (.bool true) ∧ Ext w' w'') := fun w' e => by
      have := CV.out A3 X c3 w' (RX.out.ext e) HshX.out HwfX.out; rw [K1.out] at this; exact this
    have CVD : Hid (∀ w', Ext W w' → Calls Try.prog 16 #[.agg #[.slice A1 ds.length c1]] w' fun e w'' => e = .returned (.bool (descOk ds)) ∧ Ext w' w'') := fun w' e => CV.out A1 ds c1 w' (RD.out.ext e) hsh.out hwf.out
    have CFX : Hid (∀ w', Ext W w' → Gives Try.prog 17 #[.agg #[.slice A3 X.length c3], .agg #[.slice A1 ds.length c1]] w' (.bool (descOk ds))) := fun w' e => by
      have := CF.out A3 A1 X ds c3 c1 w' (RX.out.ext e) (RD.out.ext e) HshX.out HwfX.out hsh.out hwf.out; rw [K2.out] at this; exact this
    have CEY : Hid (descOk ds = true → ∀ w', Ext W w' → Gives Try.prog 15 #[.agg #[.slice A5 Y.length c5], .agg #[.slice A1 ds.length c1]] w' (.bool true)) := fun hd w' e => by
      have := CE.out A5 A1 Y ds c5 c1 w' (RY.out.ext e) (RD.out.ext e) HshY.out hsh.out
      rw [KY.out hd, eqD_refl] at this
      rw [KY.out hd]; exact this
    clear CI CS CE CV CF CD KY RX RD RY hA h
    generalize descOk ds = z at *
    cases z
    · go_wp2_with fail
      rw [← HW.out]
      refine wp_region_quiet_below (by kernel_rfl) (by kernel_rfl) ?_
      repeat (go_big_quiet_step ((first | (go_at_call 16; first | with_reducible exact Calls.regrown_of (CVX.out _ (by first | assumption | exact Ext_regrown _ _ (Ext.refl _))) | with_reducible exact Calls.regrown_of (CVD.out _ (by first | assumption | exact Ext_regrown _ _ (Ext.refl _)))) | (go_at_call 17; exact Calls.regrown_of (CFX.out _ (by first | assumption | exact Ext_regrown _ _ (Ext.refl _)))))))
      refine wpQuiet_nil ?_
      rintro w6 ⟨⟨nq, osq⟩, hq⟩
      have ew6 := ext_of_q hq
      clear hq nq osq
      go_wp2
      go_ret
      exact ⟨rfl, HEX.out.trans ew6⟩
    · have CEZ := Lib.hid (CEY.out rfl)
      clear CEY
      go_wp2_with fail
      rw [← HW.out]
      refine wp_region_quiet_below (by kernel_rfl) (by kernel_rfl) ?_
      repeat (go_big_quiet_step ((first | (go_at_call 16; first | with_reducible exact Calls.regrown_of (CVX.out _ (by first | assumption | exact Ext_regrown _ _ (Ext.refl _))) | with_reducible exact Calls.regrown_of (CVD.out _ (by first | assumption | exact Ext_regrown _ _ (Ext.refl _)))) | (go_at_call 17; exact Calls.regrown_of (CFX.out _ (by first | assumption | exact Ext_regrown _ _ (Ext.refl _)))) | (go_at_call 15; exact Calls.regrown_of (CEZ.out _ (by first | assumption | exact Ext_regrown _ _ (Ext.refl _)))))))
      refine wpQuiet_nil ?_
      rintro w6 ⟨⟨nq, osq⟩, hq⟩
      have ew6 := ext_of_q hq
      clear hq nq osq
      go_wp2
      go_ret
      exact ⟨rfl, HEX.out.trans ew6⟩
end Go.Proofs.Ytophjmphjdhjoaa
