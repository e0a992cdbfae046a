/- Plain laws of runs of equal bytes: no program in sight. -/
import Derived.Test.YtlaejcacembjiaaZAv2
import Derived.Laws.RangeAny
namespace Go.Proofs.Ytlaejcacembjiaa

def runLen : List UInt8 → Nat
  | [] => 0
  | x :: t => 1 + (t.takeWhile (· == x)).length

/-- how many equal bytes begin at an index -/
def runAt (l : List UInt8) (i : Int) : Nat := if 0 ≤ i ∧ i < l.length then runLen (l.drop i.toNat) else 0

theorem takeWhile_len {t : List UInt8} {x : UInt8} : ∀ (k : Nat), (∀ j, j < k → t[j]? = some x) → (t[k]? ≠ some x) → (t.takeWhile (· == x)).length = k := by
  induction t with
  | nil => intro k h _; cases k with
    | zero => rfl
    | succ k => have := h 0 (by omega); simp at this
  | cons y t ih =>
    intro k h hn
    cases k with
    | zero =>
      have : y ≠ x := by simpa using hn
      simp [this]
    | succ k =>
      have hy : y = x := by simpa using h 0 (by omega)
      subst hy
      rw [List.takeWhile_cons]
      simp
      exact ih k (fun j hj => by simpa using h (j+1) (by omega)) (by simpa using hn)

theorem runLen_drop {l : List UInt8} {a k : Nat} (hk : 1 ≤ k) (h : ∀ j, j < k → l[a+j]? = l[a]?) (ha : a < l.length) (hn : l[a+k]? ≠ l[a]?) : runLen (l.drop a) = k := by
  rw [List.drop_eq_getElem_cons ha]
  have hx : l[a]? = some l[a] := by simp [ha]
  rw [hx] at h hn
  have := takeWhile_len (t := l.drop (a+1)) (x := l[a]) (k-1) (fun j hj => by rw [List.getElem?_drop]; have := h (j+1) (by omega); rwa [show a + (j+1) = a + 1 + j by omega] at this) (by rw [List.getElem?_drop]; rwa [show a + 1 + (k-1) = a + k by omega])
  simp only [runLen, this]; omega
theorem runAt_eq {l : List UInt8} {a k : Nat} (hk : 1 ≤ k) (h : ∀ j, j < k → l[a+j]? = l[a]?) (ha : a < l.length) (hn : l[a+k]? ≠ l[a]?) : runAt l a = k := by
  unfold runAt; rw [if_pos (by omega)]; simpa using runLen_drop hk h ha hn
theorem runAt_out {l : List UInt8} {i : Int} (h : ¬ (0 ≤ i ∧ i < l.length)) : runAt l i = 0 := by
  unfold runAt; rw [if_neg h]
theorem takeWhile_spec (t : List UInt8) (x : UInt8) : (t.takeWhile (· == x)).length ≤ t.length ∧ (∀ j, j < (t.takeWhile (· == x)).length → t[j]? = some x) ∧ t[(t.takeWhile (· == x)).length]? ≠ some x := by
  induction t with
  | nil => simp
  | cons y t ih =>
    by_cases hy : y = x
    · subst hy
      rw [List.takeWhile_cons]
      simp only [BEq.rfl, if_true, List.length_cons]
      refine ⟨by omega, fun j hj => ?_, by simp; exact ih.2.2⟩
      cases j with
      | zero => rfl
      | succ j => simpa using ih.2.1 j (by omega)
    · rw [List.takeWhile_cons]
      simp [hy]
/-- what a run is, at an index within the list -/
theorem runAt_spec (l : List UInt8) (a : Nat) (ha : a < l.length) : 1 ≤ runAt l a ∧ a + runAt l a ≤ l.length ∧ (∀ j, j < runAt l a → l[a+j]? = l[a]?) ∧ l[a + runAt l a]? ≠ l[a]? := by
  unfold runAt
  rw [if_pos (by omega), Int.toNat_natCast, List.drop_eq_getElem_cons ha]
  have hx : l[a]? = some l[a] := by simp [ha]
  obtain ⟨h1, h2, h3⟩ := takeWhile_spec (l.drop (a+1)) l[a]
  simp only [runLen]
  rw [hx]
  generalize (List.takeWhile (fun x => x == l[a]) (List.drop (a + 1) l)).length = m at *
  rw [List.length_drop] at h1
  refine ⟨by omega, by omega, fun j hj => ?_, ?_⟩
  · cases j with
    | zero => exact hx
    | succ j => have := h2 j (by omega); rw [List.getElem?_drop] at this; rwa [show a + (j+1) = a + 1 + j by omega]
  · rw [List.getElem?_drop] at h3; rwa [show a + (1 + m) = a + 1 + m by omega]

/-- the number of maximal runs from an index on -/
def countFrom (l : List UInt8) : Nat → Nat → Nat
  | 0, _ => 0
  | f + 1, a => if a < l.length then 1 + countFrom l f (a + runAt l a) else 0
def countRuns (l : List UInt8) : Nat := countFrom l l.length 0
theorem countFrom_fuel (l : List UInt8) : ∀ f g a, l.length - a ≤ f → l.length - a ≤ g → countFrom l f a = countFrom l g a := by
  intro f
  induction f with
  | zero =>
    intro g a h _
    cases g with
    | zero => rfl
    | succ g => rw [countFrom, countFrom, if_neg (by omega)]
  | succ f ih =>
    intro g a h1 h2
    cases g with
    | zero => rw [countFrom, countFrom, if_neg (by omega)]
    | succ g =>
      rw [countFrom, countFrom]
      by_cases ha : a < l.length
      · have := (runAt_spec l a ha).1
        rw [if_pos ha, if_pos ha, ih g _ (by omega) (by omega)]
      · rw [if_neg ha, if_neg ha]
theorem countFrom_step (l : List UInt8) (a : Nat) (ha : a < l.length) : countFrom l l.length a = 1 + countFrom l l.length (a + runAt l a) := by
  have := (runAt_spec l a ha).1
  rw [countFrom_fuel l l.length (l.length + 1) a (by omega) (by omega), countFrom, if_pos ha]
theorem countFrom_end (l : List UInt8) (a : Nat) (ha : l.length ≤ a) : countFrom l l.length a = 0 := by
  rw [countFrom_fuel l l.length 0 a (by omega) (by omega), countFrom]
theorem countFrom_le (l : List UInt8) : ∀ f a, countFrom l f a ≤ f := by
  intro f
  induction f with
  | zero => intro a; simp [countFrom]
  | succ f ih => intro a; rw [countFrom]; split; have := ih (a + runAt l a); omega; omega
theorem runAt_le (l : List UInt8) (i : Int) : runAt l i ≤ l.length := by
  unfold runAt
  split
  · rename_i h
    have := (runAt_spec l i.toNat (by omega)).2.1
    unfold runAt at this; rw [if_pos (by omega), Int.toNat_natCast] at this; omega
  · omega
end Go.Proofs.Ytlaejcacembjiaa

/- RunAt and CountRuns of the program and of the reference. -/
namespace Go.Proofs.Ytlaejcacembjiaa
open Go.RowKit Go.Sort

set_option maxHeartbeats 400000 in
theorem l1In_c (n a b : Int) (w : World) : Gives Try.prog 104 #[.int .i64 n, .int .i64 a, .int .i64 b] w (.bool (decide (a ≤ n) && decide (n ≤ b))) := by
  by_cases h : a ≤ n
  · go_enter Try.func104, Try.ntmps104
    go_wp2
    go_ret
    exact ⟨ret_bool (by simp [h]), Ext.refl _⟩
  · go_enter Try.func104, Try.ntmps104
    go_wp2
    go_ret
    exact ⟨ret_bool (by simp; omega), Ext.refl _⟩

theorem runs_step {l : List UInt8} {a k : Nat} (hlt : a + k < l.length) (ha : a < l.length) (hs : ∀ j, j < k → l[a+j]? = l[a]?) (e : l[a+k] = l[a]) : ∀ j, j < k + 1 → l[a+j]? = l[a]? := by
  intro j hj
  by_cases h : j < k
  · exact hs j h
  · obtain rfl : j = k := by omega
    rw [List.getElem?_eq_getElem hlt, List.getElem?_eq_getElem ha, e]

set_option maxHeartbeats 400000 in
theorem iRunAt_c (A : Option Addr) (l : List UInt8) (c : Nat) (i : Int) (w : World) (h : Bs w A l c) :
    Gives Try.prog 189 #[.slice A l.length c, .int .i64 i] w (.int .i64 (runAt l i)) := by
  have hl := h.len
  by_cases hi : 0 ≤ i ∧ i < l.length
  · obtain ⟨h0, h1⟩ := hi
    obtain ⟨a, rfl⟩ := Int.eq_ofNat_of_zero_le h0
    have ha : a < l.length := by omega
    have hd1 : decide ((a : Int) < 0) = false := by simp
    have hd2 : decide ((l.length : Int) ≤ (a : Int)) = false := by simp; omega
    have hd3 : decide (l.length ≤ a) = false := by simp; omega
    go_enter Try.func189, Try.ntmps189
    go_wp2
    go_loopw [5] (fun n wr => ∃ k : Nat, 1 ≤ k ∧ a + k ≤ l.length ∧ n = .int .i64 k ∧ Hid (∀ j, j < k → l[a+j]? = l[a]?) ∧ Ext w wr) (fun n _ => l.length - (intOf n).toNat)
    case atStart => exact ⟨1, by omega, by omega, rfl, (fun j hj => by rw [show j = 0 by omega]; rfl), Ext.refl _⟩
    case round =>
      obtain ⟨k, hk1, hk, rfl, hs, he⟩ := hrel
      by_cases hlt : a + k < l.length
      · obtain ⟨b, off, rfl, hb, hc⟩ := h.at a ha
        obtain ⟨b', off', e', hb', hc'⟩ := h.at (a+k) hlt
        injection e' with e'; injection e' with e1 e2; subst e1; subst e2
        have hg : decide ((a : Int) + (k : Int) < (l.length : Int)) = true := by simp; omega
        clear h
        go_wp2
        refine wp_region_quiet_below (by kernel_rfl) (by kernel_rfl) ?_
        repeat (go_big_quiet_step (fail))
        refine wpQuiet_nil ?_
        rintro _ ⟨⟨nq, osq⟩, rfl⟩
        go_wp2
        · have hne : ((l[a+k].toNat : Int) == (l[a].toNat : Int)) = true := by assumption
          go_roundw
          case rel => exact ⟨k+1, by omega, by omega, by go_num, runs_step hlt ha hs (u8_inj (by simpa using hne)), Ext_regrown _ _ he⟩
          case measure => simp [intOf]; omega
        · have hne : ((l[a+k].toNat : Int) == (l[a].toNat : Int)) = false := by assumption
          go_ret
          refine ⟨ret_i64 ?_, Ext_regrown _ _ he⟩
          rw [runAt_eq hk1 hs ha (by rw [List.getElem?_eq_getElem hlt, List.getElem?_eq_getElem ha]; simp; intro e; simp [e] at hne)]
      · have hg : decide ((a : Int) + (k : Int) < (l.length : Int)) = false := by simp; omega
        clear h
        go_wp2
        refine wp_region_quiet_below (by kernel_rfl) (by kernel_rfl) ?_
        repeat (go_big_quiet_step (fail))
        refine wpQuiet_nil ?_
        rintro _ ⟨⟨nq, osq⟩, rfl⟩
        go_wp2
        go_ret
        refine ⟨ret_i64 ?_, Ext_regrown _ _ he⟩
        rw [runAt_eq hk1 hs ha (by rw [List.getElem?_eq_none (by omega)]; simp; omega)]
  · by_cases h0 : i < 0
    · go_enter Try.func189, Try.ntmps189
      go_wp2
      go_ret
      exact ⟨ret_i64 (by rw [runAt_out hi]; rfl), Ext.refl _⟩
    · have h1 : (l.length : Int) ≤ i := by omega
      go_enter Try.func189, Try.ntmps189
      go_wp2
      go_ret
      exact ⟨ret_i64 (by rw [runAt_out hi]; rfl), Ext.refl _⟩

set_option maxHeartbeats 400000 in
theorem sRunAt_c (A : Option Addr) (l : List UInt8) (c : Nat) (i : Int) (w : World) (h : Bs w A l c) (hi : (Lit.int .i64 i).wf = true) :
    Gives Try.prog 187 #[.slice A l.length c, .int .i64 i] w (.int .i64 (runAt l i)) := by
  have hl := h.len
  by_cases hi : 0 ≤ i ∧ i < l.length
  · obtain ⟨h0, h1⟩ := hi
    obtain ⟨a, rfl⟩ := Int.eq_ofNat_of_zero_le h0
    have ha : a < l.length := by omega
    have hq : (decide ((0 : Int) ≤ (a : Int)) && decide ((a : Int) ≤ (l.length : Int) - 1)) = true := by simp; omega
    have HQ := Lib.hid hq; clear hq
    go_enter Try.func187, Try.ntmps187
    go_wp2_with (go_at_call 104; refine (l1In_c _ _ _ _).mono ?_; rintro e w1 ⟨rfl, he⟩; rw [HQ.out])
    go_loopw [5] (fun n wr => ∃ k : Nat, a + k ≤ l.length ∧ n = .int .i64 k ∧ Hid (∀ j, j < k → l[a+j]? = l[a]?) ∧ Ext w wr) (fun n _ => l.length - (intOf n).toNat)
    case atStart => exact ⟨0, by omega, rfl, (fun j hj => by omega), he⟩
    case round =>
      clear he
      obtain ⟨k, hk, rfl, hs, he⟩ := hrel
      by_cases hlt : a + k < l.length
      · obtain ⟨b, off, rfl, hb, hc⟩ := h.at a ha
        obtain ⟨b', off', e', hb', hc'⟩ := h.at (a+k) hlt
        injection e' with e'; injection e' with e1 e2; subst e1; subst e2
        have hg : decide ((a : Int) + (k : Int) < (l.length : Int)) = true := by simp; omega
        clear h
        go_wp2
        refine wp_region_quiet_below (by kernel_rfl) (by kernel_rfl) ?_
        repeat (go_big_quiet_step (fail))
        refine wpQuiet_nil ?_
        rintro _ ⟨⟨nq, osq⟩, rfl⟩
        go_wp2
        · have hne : ((l[a+k].toNat : Int) == (l[a].toNat : Int)) = true := by assumption
          go_roundw
          case rel => exact ⟨k+1, by omega, by go_num, runs_step hlt ha hs (u8_inj (by simpa using hne)), Ext_regrown _ _ he⟩
          case measure => simp [intOf]; omega
        · have hne : ((l[a+k].toNat : Int) == (l[a].toNat : Int)) = false := by assumption
          go_ret
          refine ⟨ret_i64 ?_, Ext_regrown _ _ he⟩
          rcases Nat.eq_zero_or_pos k with rfl | hk1
          · simp at hne
          rw [runAt_eq hk1 hs ha (by rw [List.getElem?_eq_getElem hlt, List.getElem?_eq_getElem ha]; simp; intro e; simp [e] at hne)]
      · have hg : decide ((a : Int) + (k : Int) < (l.length : Int)) = false := by simp; omega
        clear h
        go_wp2
        refine wp_region_quiet_below (by kernel_rfl) (by kernel_rfl) ?_
        repeat (go_big_quiet_step (fail))
        refine wpQuiet_nil ?_
        rintro _ ⟨⟨nq, osq⟩, rfl⟩
        go_wp2
        go_ret
        refine ⟨ret_i64 ?_, Ext_regrown _ _ he⟩
        rw [runAt_eq (by omega) hs ha (by rw [List.getElem?_eq_none (by omega)]; simp; omega)]
  · have hq : (decide ((0 : Int) ≤ i) && decide (i ≤ (l.length : Int) - 1)) = false := by simp; omega
    have HQ := Lib.hid hq; clear hq
    go_enter Try.func187, Try.ntmps187
    go_wp2_with (go_at_call 104; refine (l1In_c _ _ _ _).mono ?_; rintro e w1 ⟨rfl, he⟩; rw [HQ.out])
    go_ret
    exact ⟨ret_i64 (by rw [runAt_out hi]; rfl), he⟩

end Go.Proofs.Ytlaejcacembjiaa

/- IsName of the program and of the reference. -/
namespace Go.Proofs.Ytlaejcacembjiaa
open Go.RowKit Go.Sort

/-- may this byte stand at this place of a name -/
def nameCh (i : Nat) (x : UInt8) : Bool := decide (97 ≤ x.toNat ∧ x.toNat ≤ 122) || (decide (48 ≤ x.toNat ∧ x.toNat ≤ 57) && decide (i ≠ 0))
def okCh (s : ByteArray) (i : Nat) : Bool := if h : i < s.size then nameCh i s[i] else true
def isName (s : ByteArray) : Bool := decide (1 ≤ s.size ∧ s.size ≤ 12) && (List.range s.size).all (okCh s)
theorem isName_no {s : ByteArray} {k : Nat} (hk : k < s.size) (h : okCh s k = false) : isName s = false := by
  unfold isName
  rw [Bool.and_eq_false_iff]; right
  rw [Bool.eq_false_iff]
  intro hall
  have := List.all_eq_true.1 hall k (by simpa using hk)
  rw [h] at this; cases this
theorem isName_all {s : ByteArray} (h : ∀ j, j < s.size → okCh s j = true) : isName s = decide (1 ≤ s.size ∧ s.size ≤ 12) := by
  unfold isName
  rw [List.all_eq_true.2 (fun j hj => h j (by simpa using hj)), Bool.and_true]
theorem okCh_at {s : ByteArray} {k : Nat} (hk : k < s.size) : okCh s k = nameCh k s[k] := dif_pos hk

set_option maxRecDepth 100000 in
set_option maxHeartbeats 2000000 in
theorem sIsName_c (s : ByteArray) (w : World) (hs : s.size ≤ 9223372036854775807) : Gives Try.prog 141 #[.string s] w (.bool (isName s)) := by
  go_enter Try.func141, Try.ntmps141
  go_wp2
  go_loopw [3] (fun i wr => ∃ k : Nat, k ≤ s.size ∧ i = .int .i64 k ∧ Hid (∀ j, j < k → okCh s j = true) ∧ Ext w wr) (fun i _ => s.size - (intOf i).toNat)
  case atStart => exact ⟨0, by omega, rfl, (fun j hj => by omega), Ext.refl _⟩
  case round =>
    obtain ⟨k, hk, rfl, ho, he⟩ := hrel
    by_cases hlt : k < s.size
    · have hb : (s[k].toNat : Int) ≤ 255 := by have := s[k].toNat_lt; omega
      have hok := Lib.hid (okCh_at hlt)
      rcases (by omega : (s[k].toNat : Int) < 48 ∨ ((48 : Int) ≤ s[k].toNat ∧ (s[k].toNat : Int) ≤ 57 ∧ k = 0) ∨ ((48 : Int) ≤ s[k].toNat ∧ (s[k].toNat : Int) ≤ 57 ∧ 0 < k) ∨ ((57 : Int) < s[k].toNat ∧ (s[k].toNat : Int) < 97) ∨ ((97 : Int) ≤ s[k].toNat ∧ (s[k].toNat : Int) ≤ 122) ∨ (122 : Int) < s[k].toNat) with c | ⟨c, c', rfl⟩ | ⟨c, c', c''⟩ | ⟨c, c'⟩ | ⟨c, c'⟩ | c
      all_goals
        go_wp2
        all_goals first
          | (exfalso
             have hq : (!decide ((s[k].toNat : Int) ≤ 122)) = false := by assumption
             simp at hq
             omega)
          | (go_ret
             refine ⟨ret_bool ?_, he⟩
             rw [isName_no hlt]
             rw [hok.out]; unfold nameCh; simp; omega)
          | (go_roundw
             case rel => exact ⟨k+1, by omega, by go_num, (fun j hj => by
               rcases (by omega : j < k ∨ j = k) with hj | rfl
               · exact ho.out j hj
               · rw [hok.out]; unfold nameCh; simp; omega), he⟩
             case measure => simp [intOf]; omega)
    · obtain rfl : k = s.size := by omega
      have HE := Lib.hid (isName_all ho.out)
      go_wp2_with (go_at_call 104; refine (l1In_c _ _ _ _).mono ?_; rintro _ w1 ⟨rfl, he1⟩)
      go_ret
      refine ⟨ret_bool ?_, he.trans he1⟩
      rw [HE.out, Bool.eq_iff_iff]; simp; omega

set_option maxRecDepth 100000 in
set_option maxHeartbeats 2000000 in
theorem iIsName_c (s : ByteArray) (w : World) (hs : s.size ≤ 9223372036854775807) : Gives Try.prog 149 #[.string s] w (.bool (isName s)) := by
  by_cases hlen : 1 ≤ s.size ∧ s.size ≤ 12
  · obtain ⟨hlo, hhi⟩ := hlen
    have d1 : decide ((s.size : Int) < 1) = false := by simp; omega
    have d2 : decide ((12 : Int) < (s.size : Int)) = false := by simp; omega
    go_enter Try.func149, Try.ntmps149
    go_wp2
    go_loopw [3, 4, 5, 6] (fun _ _ _ _ wr => ∃ k : Nat, k ≤ s.size ∧ Hid (∀ j, j < k → okCh s j = true) ∧ wr = w.iter s k) (fun _ _ _ _ wr => s.size - wr.iterPos w.heap.size)
    case atStart => exact ⟨0, by omega, (fun j hj => by omega), rfl⟩
    case round =>
      obtain ⟨k, hk, ho, rfl⟩ := hrel
      by_cases hlt : k < s.size
      · have hok := Lib.hid (okCh_at hlt)
        by_cases ha : s[k].toNat < 128
        · have hnx : ∀ ty, (Instr.next (.pointer (some ⟨w.heap.size, 0, none⟩)) true ty).run Try.prog (w.iter s k) = _ := fun ty => run_next_ascii w s k ty hlt ha
          rcases (by omega : (s[k].toNat : Int) < 48 ∨ ((48 : Int) ≤ s[k].toNat ∧ (s[k].toNat : Int) ≤ 57 ∧ k = 0) ∨ ((48 : Int) ≤ s[k].toNat ∧ (s[k].toNat : Int) ≤ 57 ∧ 0 < k) ∨ ((57 : Int) < s[k].toNat ∧ (s[k].toNat : Int) < 97) ∨ ((97 : Int) ≤ s[k].toNat ∧ (s[k].toNat : Int) ≤ 122) ∨ (122 : Int) < s[k].toNat) with c | ⟨c, c', rfl⟩ | ⟨c, c', c''⟩ | ⟨c, c'⟩ | ⟨c, c'⟩ | c
          all_goals
            go_wp2
            all_goals first
              | (exfalso
                 have hq : (!decide ((s[k].toNat : Int) ≤ 122)) = false := by assumption
                 simp at hq
                 omega)
              | (go_ret
                 refine ⟨ret_bool ?_, Ext_alloc _ (Ext.refl w)⟩
                 rw [isName_no hlt]
                 rw [hok.out]; unfold nameCh; simp; omega)
              | (go_roundw
                 case rel => exact ⟨k+1, by omega, (fun j hj => by
                   rcases (by omega : j < k ∨ j = k) with hj | rfl
                   · exact ho.out j hj
                   · rw [hok.out]; unfold nameCh; simp; omega), rfl⟩
                 case measure => simp; omega)
        · obtain ⟨hr1, hr2⟩ := decode_high s k hlt (by omega)
          have hr3 := decode_le s k
          have hnx : ∀ ty, (Instr.next (.pointer (some ⟨w.heap.size, 0, none⟩)) true ty).run Try.prog (w.iter s k) = _ := fun ty => run_next_any w s k ty hlt
          generalize (Utf8.decode s k).1 = rn at *
          generalize (Utf8.decode s k).2 = wd at *
          have d1 : decide ((rn : Int) ≤ 122) = false := by simp; omega
          have d2 : decide ((rn : Int) ≤ 57) = false := by simp; omega
          have hr1 : (128 : Int) ≤ (rn : Int) := by omega
          go_wp2
          go_ret
          refine ⟨ret_bool ?_, Ext_alloc _ (Ext.refl w)⟩
          rw [isName_no hlt]
          rw [hok.out]; unfold nameCh; simp; omega
      · obtain rfl : k = s.size := by omega
        have HE := Lib.hid (isName_all ho.out)
        have hnx : ∀ ty, (Instr.next (.pointer (some ⟨w.heap.size, 0, none⟩)) true ty).run Try.prog (w.iter s s.size) = _ := fun ty => run_next_end w s s.size ty hlt
        go_wp2
        go_ret
        refine ⟨ret_bool ?_, Ext_alloc _ (Ext.refl w)⟩
        rw [HE.out]; simp; omega
  · have hno : Hid (isName s = false) := by show _ = _; unfold isName; rw [decide_eq_false hlen]; rfl
    rcases (by omega : (s.size : Int) < 1 ∨ ((1 : Int) ≤ s.size ∧ (12 : Int) < s.size)) with c | ⟨c, c'⟩
    all_goals
      go_enter Try.func149, Try.ntmps149
      go_wp2
      go_ret
      exact ⟨ret_bool hno.out.symm, Ext.refl w⟩
end Go.Proofs.Ytlaejcacembjiaa

/- Valid descriptions, as plain functions of the rules. -/
namespace Go.Proofs.Ytlaejcacembjiaa

/-- f holds at every number below n -/
def allN (n : Nat) (f : Nat → Bool) : Bool := (List.range n).all f
theorem allN_no {n k : Nat} {f : Nat → Bool} (hk : k < n) (h : f k = false) : allN n f = false := by
  unfold allN
  rw [Bool.eq_false_iff]
  intro hall
  have := List.all_eq_true.1 hall k (by simpa using hk)
  rw [h] at this; cases this
theorem allN_yes {n : Nat} {f : Nat → Bool} (h : ∀ j, j < n → f j = true) : allN n f = true := List.all_eq_true.2 fun j hj => h j (by simpa using hj)
theorem upTo {k : Nat} {f : Nat → Bool} (h : ∀ j, j < k → f j = true) (hk : f k = true) : ∀ j, j < k + 1 → f j = true := by
  intro j hj
  rcases (by omega : j < k ∨ j = k) with hj | rfl
  · exact h j hj
  · exact hk
/-- is the text among the first k of the list -/
def hasNm (l : List ByteArray) (s : ByteArray) : Bool := l.any fun x => x.toList == s.toList
theorem hasNm_at {l : List ByteArray} {s : ByteArray} {k : Nat} (hk : k < l.length) (h : (l[k].toList == s.toList) = true) : hasNm l s = true := List.any_eq_true.2 ⟨l[k], List.getElem_mem hk, h⟩
theorem hasNm_none {l : List ByteArray} {s : ByteArray} (h : ∀ k (hk : k < l.length), (l[k].toList == s.toList) = false) : hasNm l s = false := by
  unfold hasNm
  rw [List.any_eq_false]
  intro x hx
  obtain ⟨k, hk, rfl⟩ := List.getElem_of_mem hx
  rw [h k hk]; simp
/-- the greatest number of an integer rule, else -1 -/
def limR (r : DRule) : Int := if r.kind = 1 ∧ 1 ≤ r.size ∧ r.size ≤ 4 then 256 ^ r.size.toNat - 1 else -1
def limD (ds : List DRule) (i : Int) : Int := if 0 ≤ i then (match ds[i.toNat]? with | some r => limR r | none => -1) else -1
theorem limR_cases (r : DRule) : limR r = -1 ∨ limR r = 255 ∨ limR r = 65535 ∨ limR r = 16777215 ∨ limR r = 4294967295 := by
  unfold limR
  split
  · rename_i h
    rcases (by omega : r.size = 1 ∨ r.size = 2 ∨ r.size = 3 ∨ r.size = 4) with e | e | e | e <;> rw [e] <;> simp
  · exact .inl rfl
theorem limD_cases (ds : List DRule) (i : Int) : limD ds i = -1 ∨ limD ds i = 255 ∨ limD ds i = 65535 ∨ limD ds i = 16777215 ∨ limD ds i = 4294967295 := by
  unfold limD
  split
  · split
    · exact limR_cases _
    · exact .inl rfl
  · exact .inl rfl
/-- the fields that a rule may have -/
def plainB (r : DRule) (size bytes names tags : Bool) (kids : Int) : Bool :=
  (size || r.size == 0) && (bytes || r.bytes.length == 0) && (names || r.names.length == 0) && (tags || r.tags.length == 0) && (decide (kids < 0) || decide ((r.kids.length : Int) = kids))
def between (n lo hi : Int) : Bool := decide (lo ≤ n) && decide (n ≤ hi)
def nameOk (l : List ByteArray) (i : Nat) : Bool := match l[i]? with | some s => isName s && !hasNm (l.take i) s | none => true
def seqOk (r : DRule) : Bool := plainB r false false true false (-1) && r.kids.length == r.names.length && between r.kids.length 1 8 && allN r.names.length (nameOk r.names)
def tagOk (lim : Int) (l : List Int) (i : Nat) : Bool := match l[i]? with | some t => between t 0 lim && (i == 0 || decide (l.getD (i - 1) 0 < t)) | none => true
def choOk (ds : List DRule) (r : DRule) : Bool := plainB r false false false true (r.tags.length + 1) && between r.tags.length 1 8 && allN r.tags.length (tagOk (limD ds (r.kids.getD 0 0)) r.tags)
def kindOk (ds : List DRule) (r : DRule) : Bool :=
  if r.kind = 1 then plainB r true false false false 0 && between r.size 1 4 && (!r.little || decide (1 < r.size))
  else if r.kind = 2 then plainB r false true false false 0 && between r.bytes.length 1 16
  else if r.kind = 3 then plainB r true false false false 0 && between r.size 1 64
  else if r.kind = 4 then plainB r false false false false 1 && decide (0 < limD ds (r.kids.getD 0 0))
  else if r.kind = 5 then plainB r false false false false 2 && decide (0 < limD ds (r.kids.getD 0 0))
  else if r.kind = 6 then seqOk r
  else if r.kind = 7 then choOk ds r
  else if r.kind = 8 then plainB r false false false false 1
  else if r.kind = 9 then plainB r false false false false 1
  else if r.kind = 10 then plainB r false true false false 0 && r.bytes.length == 1 && !(r.bytes.getD 0 0 == 92)
  else false
def freshNm (ds : List DRule) (r : DRule) (j : Nat) : Bool := match ds[j]? with | some q => !(q.nm.toList == r.nm.toList) | none => true
def kidOk (l : List Int) (i : Nat) (j : Nat) : Bool := match l[j]? with | some k => between k 0 ((i : Int) - 1) | none => true
/-- rule number i is valid -/
def ruleOk (ds : List DRule) (i : Nat) : Bool := match ds[i]? with
  | some r => isName r.nm && (!r.little || r.kind == 1) && allN i (freshNm ds r) && allN r.kids.length (kidOk r.kids i) && kindOk ds r
  | none => false
def ruleOkI (ds : List DRule) (i : Int) : Bool := decide (0 ≤ i) && ruleOk ds i.toNat
def descOk (ds : List DRule) : Bool := between ds.length 1 24 && allN ds.length (ruleOk ds)
def regOk (gs : List (List DRule)) : Bool := decide (gs.length ≤ 8) && allN gs.length (fun i => match gs[i]? with | some d => descOk d | none => true)
end Go.Proofs.Ytlaejcacembjiaa

/- Parts of the test of a description: names in lists, limits, fields. -/
namespace Go.Proofs.Ytlaejcacembjiaa
open Go.RowKit Go.Sort

set_option maxHeartbeats 400000 in
theorem sContains_c (A : Option Addr) (l : List ByteArray) (c : Nat) (s : ByteArray) (w : World) (h : Rd0 vstr w A l c) :
    Gives Try.prog 46 #[.slice A l.length c, .string s] w (.bool (hasNm l s)) := by
  have hl := h.len
  go_enter Try.func46, Try.ntmps46
  go_wp2
  go_loopw [5] (fun i wr => ∃ k : Nat, k ≤ l.length ∧ i = .int .i64 k ∧ Hid (∀ j (hj : j < l.length), j < k → (l[j].toList == s.toList) = false) ∧ Ext w wr) (fun i _ => l.length - (intOf i).toNat)
  case atStart => exact ⟨0, by omega, rfl, (fun j _ hj => by omega), Ext.refl _⟩
  case round =>
    obtain ⟨k, hk, rfl, ht, he⟩ := hrel
    by_cases hlt : k < l.length
    · obtain ⟨b, off, rfl, hb, hc⟩ := h.at k hlt
      have YES : Hid ((l[k].toList == s.toList) = true → hasNm l s = true) := hasNm_at hlt
      have NO : Hid ((l[k].toList == s.toList) = false → ∀ j (hj : j < l.length), j < k + 1 → (l[j].toList == s.toList) = false) := by
        intro hy j hj hjk
        rcases (by omega : j < k ∨ j = k) with hjk | rfl
        · exact ht.out j hj hjk
        · exact hy
      clear h
      generalize l[k] = x at *
      cases hq : (x.toList == s.toList)
      · have NO' := Lib.hid (NO.out hq)
        go_wp2
        go_roundw
        case rel => exact ⟨k+1, by omega, by go_num, NO'.out, he⟩
        case measure => simp [intOf]; omega
      · have YES' := Lib.hid (YES.out hq)
        go_wp2
        go_ret
        exact ⟨ret_bool YES'.out.symm, he⟩
    · have HE : Hid (hasNm l s = false) := hasNm_none (fun j hj => ht.out j hj (by omega))
      go_wp2
      go_ret
      exact ⟨ret_bool HE.out.symm, he⟩
set_option maxHeartbeats 400000 in
theorem iContains_c (A : Option Addr) (l : List ByteArray) (c : Nat) (s : ByteArray) (w : World) (h : Rd0 vstr w A l c) :
    Gives Try.prog 96 #[.slice A l.length c, .string s] w (.bool (hasNm l s)) := by
  have hl := h.len
  go_enter Try.func96, Try.ntmps96
  go_wp2
  go_loopw [9] (fun i wr => ∃ k : Nat, k ≤ l.length ∧ i = .int .i64 k ∧ Hid (∀ j (hj : j < l.length), j < k → (l[j].toList == s.toList) = false) ∧ Ext w wr) (fun i _ => l.length - (intOf i).toNat)
  case atStart => exact ⟨0, by omega, rfl, (fun j _ hj => by omega), Ext.refl _⟩
  case round =>
    obtain ⟨k, hk, rfl, ht, he⟩ := hrel
    by_cases hlt : k < l.length
    · obtain ⟨b, off, rfl, hb, hc⟩ := h.at k hlt
      have YES : Hid ((l[k].toList == s.toList) = true → hasNm l s = true) := hasNm_at hlt
      have NO : Hid ((l[k].toList == s.toList) = false → ∀ j (hj : j < l.length), j < k + 1 → (l[j].toList == s.toList) = false) := by
        intro hy j hj hjk
        rcases (by omega : j < k ∨ j = k) with hjk | rfl
        · exact ht.out j hj hjk
        · exact hy
      clear h
      generalize l[k] = x at *
      cases hq : (x.toList == s.toList)
      · have NO' := Lib.hid (NO.out hq)
        go_wp2
        go_roundw
        case rel => exact ⟨k+1, by omega, by go_num, NO'.out, he⟩
        case measure => simp [intOf]; omega
      · have YES' := Lib.hid (YES.out hq)
        go_wp2
        go_ret
        exact ⟨ret_bool YES'.out.symm, he⟩
    · have HE : Hid (hasNm l s = false) := hasNm_none (fun j hj => ht.out j hj (by omega))
      go_wp2
      go_ret
      exact ⟨ret_bool HE.out.symm, he⟩
set_option maxHeartbeats 400000 in
theorem hasRule_c (A : Option Addr) (n c : Nat) (i : Int) (w : World) (hn : n ≤ 9223372036854775807) :
    Gives Try.prog 137 #[vdesc (.slice A n c), .int .i64 i] w (.bool (decide (0 ≤ i) && decide (i < n))) := by
  unfold vdesc
  by_cases h0 : 0 ≤ i
  · by_cases h1 : i < n
    all_goals
      go_enter Try.func137, Try.ntmps137
      go_wp2
      go_ret
      exact ⟨ret_bool (by simp [*]), Ext_alloc _ (Ext.refl w)⟩
  · go_enter Try.func137, Try.ntmps137
    go_wp2
    go_ret
    exact ⟨ret_bool (by simp; omega), Ext_alloc _ (Ext.refl w)⟩
end Go.Proofs.Ytlaejcacembjiaa

/- Limits of integers; the fields that a rule may have. -/
namespace Go.Proofs.Ytlaejcacembjiaa
open Go.RowKit Go.Sort

theorem limD_out {ds : List DRule} {i : Int} (h : ¬ (0 ≤ i ∧ i < ds.length)) : limD ds i = -1 := by
  unfold limD
  split
  · rw [List.getElem?_eq_none (by omega)]
  · rfl
theorem limD_in {ds : List DRule} {k : Nat} (h : k < ds.length) : limD ds (k : Int) = limR ds[k] := by
  unfold limD
  rw [if_pos (by omega), Int.toNat_natCast, List.getElem?_eq_getElem h]
theorem limR_kind {r : DRule} (h : r.kind ≠ 1) : limR r = -1 := by unfold limR; rw [if_neg (by omega)]
theorem limR_size {r : DRule} (h : ¬ (1 ≤ r.size ∧ r.size ≤ 4)) : limR r = -1 := by unfold limR; rw [if_neg (by omega)]
theorem limR_yes {r : DRule} (h : r.kind = 1) (s : Nat) (h1 : 1 ≤ s) (h2 : s ≤ 4) (e : r.size = s) : limR r = 256 ^ s - 1 := by
  unfold limR; rw [if_pos (by omega), e, Int.toNat_natCast]
set_option maxRecDepth 100000 in
set_option maxHeartbeats 2000000 in
theorem iLimit_c (A : Option Addr) (ds : List DRule) (c : Nat) (i : Int) (w : World) (h : RdD w A ds c) :
    Gives Try.prog 168 #[vdesc (.slice A ds.length c), .int .i64 i] w (.int .i64 (limD ds i)) := by
  have hl := h.len
  have eb := Ext_alloc (.cells #[.slice A ds.length c] 38) (Ext.refl w)
  have BX := fun w' (e : Ext (w.alloc (.cells #[.slice A ds.length c] 38)) w') => boxed e 0
  simp only [List.getElem?_toArray, List.getElem?_cons_zero] at BX
  have CR := Lib.hid (fun w => hasRule_c A ds.length c i w hl)
  unfold vdesc at *
  by_cases hin : 0 ≤ i ∧ i < ds.length
  · obtain ⟨k, rfl⟩ := Int.eq_ofNat_of_zero_le hin.1
    have hlt : k < ds.length := by omega
    have HI : Hid ((decide ((0 : Int) ≤ (k : Int)) && decide ((k : Int) < (ds.length : Int))) = true) := by show _ = _; simp; omega
    rw [HI.out] at CR
    obtain ⟨b, off, Ab, cb, An, cn, At, ct, Ak, ck, rfl, hb, hS, hR⟩ := h.at k hlt
    have HV := Lib.hid (limD_in hlt)
    rw [HV.out]
    have hR' := hR.ext eb
    clear hR hS h
    generalize ds[k] = r at *
    obtain ⟨k0, k1, k2, k3, k4, k5, k6, k7⟩ := hR'
    clear k0 k3 k4 k5 k6 k7 hin
    by_cases hk : r.kind = 1
    · by_cases hs : 1 ≤ r.size ∧ r.size ≤ 4
      · have hs4 : r.size = ((1 : Nat) : Int) ∨ r.size = ((2 : Nat) : Int) ∨ r.size = ((3 : Nat) : Int) ∨ r.size = ((4 : Nat) : Int) := by omega
        have CI := Lib.hid (fun w => iInRange_c r.size 1 4 w)
        have HJ : Hid ((decide ((1 : Int) ≤ r.size) && decide (r.size ≤ 4)) = true) := by show _ = _; simp; omega
        rw [HJ.out] at CI
        rcases hs4 with e | e | e | e
        · have HL := Lib.hid (limR_yes hk 1 (by omega) (by omega) e)
          rw [HL.out]
          rw [e] at k2 CI
          rw [hk] at k1
          clear hs hk e HJ
          go_enter Try.func168, Try.ntmps168
          go_wp2_with fail
          refine (CR.out _).mono ?_; rintro _ w1 ⟨rfl, he1⟩
          go_wp2_with fail
          refine (CI.out _).mono ?_; rintro _ w2 ⟨rfl, he2⟩
          have e2 := he1.trans he2
          go_wp2
          go_ret
          exact ⟨ret_i64 (by simp), eb.trans e2⟩
        · have HL := Lib.hid (limR_yes hk 2 (by omega) (by omega) e)
          rw [HL.out]
          rw [e] at k2 CI
          rw [hk] at k1
          clear hs hk e HJ
          go_enter Try.func168, Try.ntmps168
          go_wp2_with fail
          refine (CR.out _).mono ?_; rintro _ w1 ⟨rfl, he1⟩
          go_wp2_with fail
          refine (CI.out _).mono ?_; rintro _ w2 ⟨rfl, he2⟩
          have e2 := he1.trans he2
          go_wp2
          go_ret
          exact ⟨ret_i64 (by simp), eb.trans e2⟩
        · have HL := Lib.hid (limR_yes hk 3 (by omega) (by omega) e)
          rw [HL.out]
          rw [e] at k2 CI
          rw [hk] at k1
          clear hs hk e HJ
          go_enter Try.func168, Try.ntmps168
          go_wp2_with fail
          refine (CR.out _).mono ?_; rintro _ w1 ⟨rfl, he1⟩
          go_wp2_with fail
          refine (CI.out _).mono ?_; rintro _ w2 ⟨rfl, he2⟩
          have e2 := he1.trans he2
          go_wp2
          go_ret
          exact ⟨ret_i64 (by simp), eb.trans e2⟩
        · have HL := Lib.hid (limR_yes hk 4 (by omega) (by omega) e)
          rw [HL.out]
          rw [e] at k2 CI
          rw [hk] at k1
          clear hs hk e HJ
          go_enter Try.func168, Try.ntmps168
          go_wp2_with fail
          refine (CR.out _).mono ?_; rintro _ w1 ⟨rfl, he1⟩
          go_wp2_with fail
          refine (CI.out _).mono ?_; rintro _ w2 ⟨rfl, he2⟩
          have e2 := he1.trans he2
          go_wp2
          go_ret
          exact ⟨ret_i64 (by simp), eb.trans e2⟩
      · have CI := Lib.hid (fun w => iInRange_c r.size 1 4 w)
        have HJ : Hid ((decide ((1 : Int) ≤ r.size) && decide (r.size ≤ 4)) = false) := by show _ = _; rw [Bool.and_eq_false_iff]; simp; omega
        rw [HJ.out] at CI
        have HL := Lib.hid (limR_size hs)
        rw [HL.out]
        rw [hk] at k1
        clear hs hk HJ
        go_enter Try.func168, Try.ntmps168
        go_wp2_with fail
        refine (CR.out _).mono ?_; rintro _ w1 ⟨rfl, he1⟩
        go_wp2_with fail
        refine (CI.out _).mono ?_; rintro _ w2 ⟨rfl, he2⟩
        go_wp2
        go_ret
        exact ⟨rfl, eb.trans (he1.trans he2)⟩
    · have HL := Lib.hid (limR_kind hk)
      rw [HL.out]
      have hk1 : (r.kind != 1) = true := by simpa using hk
      go_enter Try.func168, Try.ntmps168
      go_wp2_with fail
      refine (CR.out _).mono ?_; rintro _ w1 ⟨rfl, he1⟩
      go_wp2
      go_ret
      exact ⟨rfl, eb.trans he1⟩
  · have HI : Hid ((decide ((0 : Int) ≤ i) && decide (i < (ds.length : Int))) = false) := by show _ = _; rw [Bool.and_eq_false_iff]; simp; omega
    rw [HI.out] at CR
    have HL := Lib.hid (limD_out hin)
    rw [HL.out]
    clear hin
    go_enter Try.func168, Try.ntmps168
    go_wp2_with fail
    refine (CR.out _).mono ?_; rintro _ w1 ⟨rfl, he1⟩
    go_wp2
    go_ret
    exact ⟨rfl, eb.trans he1⟩
set_option maxHeartbeats 400000 in
theorem l2PowerN_c (s : Nat) (w : World) (h1 : 1 ≤ s) (h2 : s ≤ 4) : Gives Try.prog 178 #[.int .i64 (s : Int)] w (.int .i64 (256 ^ s)) := by
  rcases (by omega : s = 1 ∨ s = 2 ∨ s = 3 ∨ s = 4) with rfl | rfl | rfl | rfl
  all_goals
    go_enter Try.func178, Try.ntmps178
    go_wp2
    go_ret
    exact ⟨ret_i64 (by simp), Ext.refl _⟩
set_option maxRecDepth 100000 in
set_option maxHeartbeats 2000000 in
theorem sLimit_c (A : Option Addr) (ds : List DRule) (c : Nat) (i : Int) (w : World) (h : RdD w A ds c) :
    Gives Try.prog 163 #[vdesc (.slice A ds.length c), .int .i64 i] w (.int .i64 (limD ds i)) := by
  have hl := h.len
  have eb := Ext_alloc (.cells #[.slice A ds.length c] 38) (Ext.refl w)
  have BX := fun w' (e : Ext (w.alloc (.cells #[.slice A ds.length c] 38)) w') => boxed e 0
  simp only [List.getElem?_toArray, List.getElem?_cons_zero] at BX
  have CR := Lib.hid (fun w => l1In_c i 0 ((ds.length : Int) - 1) w)
  unfold vdesc at *
  by_cases hin : 0 ≤ i ∧ i < ds.length
  · obtain ⟨k, rfl⟩ := Int.eq_ofNat_of_zero_le hin.1
    have hlt : k < ds.length := by omega
    have HI : Hid ((decide ((0 : Int) ≤ (k : Int)) && decide ((k : Int) ≤ (ds.length : Int) - 1)) = true) := by show _ = _; simp; omega
    rw [HI.out] at CR
    obtain ⟨b, off, Ab, cb, An, cn, At, ct, Ak, ck, rfl, hb, hS, hR⟩ := h.at k hlt
    have HV := Lib.hid (limD_in hlt)
    rw [HV.out]
    have hR' := hR.ext eb
    clear hR hS h
    generalize ds[k] = r at *
    obtain ⟨k0, k1, k2, k3, k4, k5, k6, k7⟩ := hR'
    clear k0 k3 k4 k5 k6 k7 hin
    by_cases hk : r.kind = 1
    · by_cases hs : 1 ≤ r.size ∧ r.size ≤ 4
      · have hs4 : r.size = ((1 : Nat) : Int) ∨ r.size = ((2 : Nat) : Int) ∨ r.size = ((3 : Nat) : Int) ∨ r.size = ((4 : Nat) : Int) := by omega
        have CI := Lib.hid (fun w => l1In_c r.size 1 4 w)
        have HJ : Hid ((decide ((1 : Int) ≤ r.size) && decide (r.size ≤ 4)) = true) := by show _ = _; simp; omega
        rw [HJ.out] at CI
        rcases hs4 with e | e | e | e
        · have HL := Lib.hid (limR_yes hk 1 (by omega) (by omega) e)
          rw [HL.out]
          rw [e] at k2 CI
          rw [hk] at k1
          clear hs hk e HJ
          go_enter Try.func163, Try.ntmps163
          go_wp2_with fail
          refine (CR.out _).mono ?_; rintro _ w1 ⟨rfl, he1⟩
          go_wp2_with fail
          refine (CI.out _).mono ?_; rintro _ w2 ⟨rfl, he2⟩
          have e2 := he1.trans he2
          go_wp2_with fail
          refine (l2PowerN_c 1 _ (by omega) (by omega)).mono ?_
          rintro _ w3 ⟨rfl, he3⟩
          have e3 := e2.trans he3
          go_wp2
          go_ret
          exact ⟨ret_i64 (by simp), eb.trans e3⟩
        · have HL := Lib.hid (limR_yes hk 2 (by omega) (by omega) e)
          rw [HL.out]
          rw [e] at k2 CI
          rw [hk] at k1
          clear hs hk e HJ
          go_enter Try.func163, Try.ntmps163
          go_wp2_with fail
          refine (CR.out _).mono ?_; rintro _ w1 ⟨rfl, he1⟩
          go_wp2_with fail
          refine (CI.out _).mono ?_; rintro _ w2 ⟨rfl, he2⟩
          have e2 := he1.trans he2
          go_wp2_with fail
          refine (l2PowerN_c 2 _ (by omega) (by omega)).mono ?_
          rintro _ w3 ⟨rfl, he3⟩
          have e3 := e2.trans he3
          go_wp2
          go_ret
          exact ⟨ret_i64 (by simp), eb.trans e3⟩
        · have HL := Lib.hid (limR_yes hk 3 (by omega) (by omega) e)
          rw [HL.out]
          rw [e] at k2 CI
          rw [hk] at k1
          clear hs hk e HJ
          go_enter Try.func163, Try.ntmps163
          go_wp2_with fail
          refine (CR.out _).mono ?_; rintro _ w1 ⟨rfl, he1⟩
          go_wp2_with fail
          refine (CI.out _).mono ?_; rintro _ w2 ⟨rfl, he2⟩
          have e2 := he1.trans he2
          go_wp2_with fail
          refine (l2PowerN_c 3 _ (by omega) (by omega)).mono ?_
          rintro _ w3 ⟨rfl, he3⟩
          have e3 := e2.trans he3
          go_wp2
          go_ret
          exact ⟨ret_i64 (by simp), eb.trans e3⟩
        · have HL := Lib.hid (limR_yes hk 4 (by omega) (by omega) e)
          rw [HL.out]
          rw [e] at k2 CI
          rw [hk] at k1
          clear hs hk e HJ
          go_enter Try.func163, Try.ntmps163
          go_wp2_with fail
          refine (CR.out _).mono ?_; rintro _ w1 ⟨rfl, he1⟩
          go_wp2_with fail
          refine (CI.out _).mono ?_; rintro _ w2 ⟨rfl, he2⟩
          have e2 := he1.trans he2
          go_wp2_with fail
          refine (l2PowerN_c 4 _ (by omega) (by omega)).mono ?_
          rintro _ w3 ⟨rfl, he3⟩
          have e3 := e2.trans he3
          go_wp2
          go_ret
          exact ⟨ret_i64 (by simp), eb.trans e3⟩
      · have CI := Lib.hid (fun w => l1In_c r.size 1 4 w)
        have HJ : Hid ((decide ((1 : Int) ≤ r.size) && decide (r.size ≤ 4)) = false) := by show _ = _; rw [Bool.and_eq_false_iff]; simp; omega
        rw [HJ.out] at CI
        have HL := Lib.hid (limR_size hs)
        rw [HL.out]
        rw [hk] at k1
        clear hs hk HJ
        go_enter Try.func163, Try.ntmps163
        go_wp2_with fail
        refine (CR.out _).mono ?_; rintro _ w1 ⟨rfl, he1⟩
        go_wp2_with fail
        refine (CI.out _).mono ?_; rintro _ w2 ⟨rfl, he2⟩
        go_wp2
        go_ret
        exact ⟨rfl, eb.trans (he1.trans he2)⟩
    · have HL := Lib.hid (limR_kind hk)
      rw [HL.out]
      have hk1 : (r.kind != 1) = true := by simpa using hk
      go_enter Try.func163, Try.ntmps163
      go_wp2_with fail
      refine (CR.out _).mono ?_; rintro _ w1 ⟨rfl, he1⟩
      go_wp2
      go_ret
      exact ⟨rfl, eb.trans he1⟩
  · have HI : Hid ((decide ((0 : Int) ≤ i) && decide (i ≤ (ds.length : Int) - 1)) = false) := by show _ = _; rw [Bool.and_eq_false_iff]; simp; omega
    rw [HI.out] at CR
    have HL := Lib.hid (limD_out hin)
    rw [HL.out]
    clear hin
    go_enter Try.func163, Try.ntmps163
    go_wp2_with fail
    refine (CR.out _).mono ?_; rintro _ w1 ⟨rfl, he1⟩
    go_wp2
    go_ret
    exact ⟨rfl, eb.trans he1⟩
end Go.Proofs.Ytlaejcacembjiaa

/- The fields that a rule may have. -/
namespace Go.Proofs.Ytlaejcacembjiaa
open Go.RowKit Go.Sort

set_option maxHeartbeats 2000000 in
theorem iPlain1000_c (r : DRule) (Ab : Option Addr) (cb : Nat) (An : Option Addr) (cn : Nat) (At : Option Addr) (ct : Nat) (Ak : Option Addr) (ck : Nat) (kids : Int) (w : World) (hl : r.bytes.length ≤ 9223372036854775807 ∧ r.names.length ≤ 9223372036854775807 ∧ r.tags.length ≤ 9223372036854775807 ∧ r.kids.length ≤ 9223372036854775807) :
    Gives Try.prog 167 #[vrule r (.slice Ab r.bytes.length cb) (.slice An r.names.length cn) (.slice At r.tags.length ct) (.slice Ak r.kids.length ck), .bool true, .bool false, .bool false, .bool false, .int .i64 kids] w (.bool (plainB r true false false false kids)) := by
  obtain ⟨l1, l2, l3, l4⟩ := hl
  unfold plainB
  obtain ⟨nm, kind, size, little, bytes, names, tags, kd⟩ := r
  unfold vrule
  dsimp only at *
  cases g_bytes : (bytes.length == 0)
  · have k_bytes : (((bytes.length : Nat) : Int) == 0) = false := by simpa using g_bytes
    go_enter Try.func167, Try.ntmps167
    go_wp2
    go_ret
    exact ⟨ret_bool (by simp [*]), Ext_alloc _ (Ext.refl w)⟩
  have k_bytes : (((bytes.length : Nat) : Int) == 0) = true := by simpa using g_bytes
  cases g_names : (names.length == 0)
  · have k_names : (((names.length : Nat) : Int) == 0) = false := by simpa using g_names
    go_enter Try.func167, Try.ntmps167
    go_wp2
    go_ret
    exact ⟨ret_bool (by simp [*]), Ext_alloc _ (Ext.refl w)⟩
  have k_names : (((names.length : Nat) : Int) == 0) = true := by simpa using g_names
  cases g_tags : (tags.length == 0)
  · have k_tags : (((tags.length : Nat) : Int) == 0) = false := by simpa using g_tags
    go_enter Try.func167, Try.ntmps167
    go_wp2
    go_ret
    exact ⟨ret_bool (by simp [*]), Ext_alloc _ (Ext.refl w)⟩
  have k_tags : (((tags.length : Nat) : Int) == 0) = true := by simpa using g_tags
  by_cases hk : kids < 0
  · have dk : decide (kids < 0) = true := by simpa using hk
    go_enter Try.func167, Try.ntmps167
    go_wp2
    go_ret
    exact ⟨ret_bool (by simp [*]), Ext_alloc _ (Ext.refl w)⟩
  · have dk : decide (kids < 0) = false := by simpa using hk
    by_cases hq : ((kd.length : Int) = kids)
    · have k_kids : ((kd.length : Int) == kids) = true := by simpa using hq
      have HQ := Lib.hid hq; clear hq
      go_enter Try.func167, Try.ntmps167
      go_wp2
      go_ret
      exact ⟨ret_bool (by have := HQ.out; simp [*]), Ext_alloc _ (Ext.refl w)⟩
    · have k_kids : ((kd.length : Int) == kids) = false := by simpa using hq
      go_enter Try.func167, Try.ntmps167
      go_wp2
      go_ret
      exact ⟨ret_bool (by simp [*]), Ext_alloc _ (Ext.refl w)⟩
set_option maxHeartbeats 2000000 in
theorem iPlain0100_c (r : DRule) (Ab : Option Addr) (cb : Nat) (An : Option Addr) (cn : Nat) (At : Option Addr) (ct : Nat) (Ak : Option Addr) (ck : Nat) (kids : Int) (w : World) (hl : r.bytes.length ≤ 9223372036854775807 ∧ r.names.length ≤ 9223372036854775807 ∧ r.tags.length ≤ 9223372036854775807 ∧ r.kids.length ≤ 9223372036854775807) :
    Gives Try.prog 167 #[vrule r (.slice Ab r.bytes.length cb) (.slice An r.names.length cn) (.slice At r.tags.length ct) (.slice Ak r.kids.length ck), .bool false, .bool true, .bool false, .bool false, .int .i64 kids] w (.bool (plainB r false true false false kids)) := by
  obtain ⟨l1, l2, l3, l4⟩ := hl
  unfold plainB
  obtain ⟨nm, kind, size, little, bytes, names, tags, kd⟩ := r
  unfold vrule
  dsimp only at *
  cases g_size : (size == 0)
  · skip
    go_enter Try.func167, Try.ntmps167
    go_wp2
    go_ret
    exact ⟨ret_bool (by simp [*]), Ext_alloc _ (Ext.refl w)⟩
  cases g_names : (names.length == 0)
  · have k_names : (((names.length : Nat) : Int) == 0) = false := by simpa using g_names
    go_enter Try.func167, Try.ntmps167
    go_wp2
    go_ret
    exact ⟨ret_bool (by simp [*]), Ext_alloc _ (Ext.refl w)⟩
  have k_names : (((names.length : Nat) : Int) == 0) = true := by simpa using g_names
  cases g_tags : (tags.length == 0)
  · have k_tags : (((tags.length : Nat) : Int) == 0) = false := by simpa using g_tags
    go_enter Try.func167, Try.ntmps167
    go_wp2
    go_ret
    exact ⟨ret_bool (by simp [*]), Ext_alloc _ (Ext.refl w)⟩
  have k_tags : (((tags.length : Nat) : Int) == 0) = true := by simpa using g_tags
  by_cases hk : kids < 0
  · have dk : decide (kids < 0) = true := by simpa using hk
    go_enter Try.func167, Try.ntmps167
    go_wp2
    go_ret
    exact ⟨ret_bool (by simp [*]), Ext_alloc _ (Ext.refl w)⟩
  · have dk : decide (kids < 0) = false := by simpa using hk
    by_cases hq : ((kd.length : Int) = kids)
    · have k_kids : ((kd.length : Int) == kids) = true := by simpa using hq
      have HQ := Lib.hid hq; clear hq
      go_enter Try.func167, Try.ntmps167
      go_wp2
      go_ret
      exact ⟨ret_bool (by have := HQ.out; simp [*]), Ext_alloc _ (Ext.refl w)⟩
    · have k_kids : ((kd.length : Int) == kids) = false := by simpa using hq
      go_enter Try.func167, Try.ntmps167
      go_wp2
      go_ret
      exact ⟨ret_bool (by simp [*]), Ext_alloc _ (Ext.refl w)⟩
set_option maxHeartbeats 2000000 in
theorem iPlain0000_c (r : DRule) (Ab : Option Addr) (cb : Nat) (An : Option Addr) (cn : Nat) (At : Option Addr) (ct : Nat) (Ak : Option Addr) (ck : Nat) (kids : Int) (w : World) (hl : r.bytes.length ≤ 9223372036854775807 ∧ r.names.length ≤ 9223372036854775807 ∧ r.tags.length ≤ 9223372036854775807 ∧ r.kids.length ≤ 9223372036854775807) :
    Gives Try.prog 167 #[vrule r (.slice Ab r.bytes.length cb) (.slice An r.names.length cn) (.slice At r.tags.length ct) (.slice Ak r.kids.length ck), .bool false, .bool false, .bool false, .bool false, .int .i64 kids] w (.bool (plainB r false false false false kids)) := by
  obtain ⟨l1, l2, l3, l4⟩ := hl
  unfold plainB
  obtain ⟨nm, kind, size, little, bytes, names, tags, kd⟩ := r
  unfold vrule
  dsimp only at *
  cases g_size : (size == 0)
  · skip
    go_enter Try.func167, Try.ntmps167
    go_wp2
    go_ret
    exact ⟨ret_bool (by simp [*]), Ext_alloc _ (Ext.refl w)⟩
  cases g_bytes : (bytes.length == 0)
  · have k_bytes : (((bytes.length : Nat) : Int) == 0) = false := by simpa using g_bytes
    go_enter Try.func167, Try.ntmps167
    go_wp2
    go_ret
    exact ⟨ret_bool (by simp [*]), Ext_alloc _ (Ext.refl w)⟩
  have k_bytes : (((bytes.length : Nat) : Int) == 0) = true := by simpa using g_bytes
  cases g_names : (names.length == 0)
  · have k_names : (((names.length : Nat) : Int) == 0) = false := by simpa using g_names
    go_enter Try.func167, Try.ntmps167
    go_wp2
    go_ret
    exact ⟨ret_bool (by simp [*]), Ext_alloc _ (Ext.refl w)⟩
  have k_names : (((names.length : Nat) : Int) == 0) = true := by simpa using g_names
  cases g_tags : (tags.length == 0)
  · have k_tags : (((tags.length : Nat) : Int) == 0) = false := by simpa using g_tags
    go_enter Try.func167, Try.ntmps167
    go_wp2
    go_ret
    exact ⟨ret_bool (by simp [*]), Ext_alloc _ (Ext.refl w)⟩
  have k_tags : (((tags.length : Nat) : Int) == 0) = true := by simpa using g_tags
  by_cases hk : kids < 0
  · have dk : decide (kids < 0) = true := by simpa using hk
    go_enter Try.func167, Try.ntmps167
    go_wp2
    go_ret
    exact ⟨ret_bool (by simp [*]), Ext_alloc _ (Ext.refl w)⟩
  · have dk : decide (kids < 0) = false := by simpa using hk
    by_cases hq : ((kd.length : Int) = kids)
    · have k_kids : ((kd.length : Int) == kids) = true := by simpa using hq
      have HQ := Lib.hid hq; clear hq
      go_enter Try.func167, Try.ntmps167
      go_wp2
      go_ret
      exact ⟨ret_bool (by have := HQ.out; simp [*]), Ext_alloc _ (Ext.refl w)⟩
    · have k_kids : ((kd.length : Int) == kids) = false := by simpa using hq
      go_enter Try.func167, Try.ntmps167
      go_wp2
      go_ret
      exact ⟨ret_bool (by simp [*]), Ext_alloc _ (Ext.refl w)⟩
set_option maxHeartbeats 2000000 in
theorem iPlain0010_c (r : DRule) (Ab : Option Addr) (cb : Nat) (An : Option Addr) (cn : Nat) (At : Option Addr) (ct : Nat) (Ak : Option Addr) (ck : Nat) (kids : Int) (w : World) (hl : r.bytes.length ≤ 9223372036854775807 ∧ r.names.length ≤ 9223372036854775807 ∧ r.tags.length ≤ 9223372036854775807 ∧ r.kids.length ≤ 9223372036854775807) :
    Gives Try.prog 167 #[vrule r (.slice Ab r.bytes.length cb) (.slice An r.names.length cn) (.slice At r.tags.length ct) (.slice Ak r.kids.length ck), .bool false, .bool false, .bool true, .bool false, .int .i64 kids] w (.bool (plainB r false false true false kids)) := by
  obtain ⟨l1, l2, l3, l4⟩ := hl
  unfold plainB
  obtain ⟨nm, kind, size, little, bytes, names, tags, kd⟩ := r
  unfold vrule
  dsimp only at *
  cases g_size : (size == 0)
  · skip
    go_enter Try.func167, Try.ntmps167
    go_wp2
    go_ret
    exact ⟨ret_bool (by simp [*]), Ext_alloc _ (Ext.refl w)⟩
  cases g_bytes : (bytes.length == 0)
  · have k_bytes : (((bytes.length : Nat) : Int) == 0) = false := by simpa using g_bytes
    go_enter Try.func167, Try.ntmps167
    go_wp2
    go_ret
    exact ⟨ret_bool (by simp [*]), Ext_alloc _ (Ext.refl w)⟩
  have k_bytes : (((bytes.length : Nat) : Int) == 0) = true := by simpa using g_bytes
  cases g_tags : (tags.length == 0)
  · have k_tags : (((tags.length : Nat) : Int) == 0) = false := by simpa using g_tags
    go_enter Try.func167, Try.ntmps167
    go_wp2
    go_ret
    exact ⟨ret_bool (by simp [*]), Ext_alloc _ (Ext.refl w)⟩
  have k_tags : (((tags.length : Nat) : Int) == 0) = true := by simpa using g_tags
  by_cases hk : kids < 0
  · have dk : decide (kids < 0) = true := by simpa using hk
    go_enter Try.func167, Try.ntmps167
    go_wp2
    go_ret
    exact ⟨ret_bool (by simp [*]), Ext_alloc _ (Ext.refl w)⟩
  · have dk : decide (kids < 0) = false := by simpa using hk
    by_cases hq : ((kd.length : Int) = kids)
    · have k_kids : ((kd.length : Int) == kids) = true := by simpa using hq
      have HQ := Lib.hid hq; clear hq
      go_enter Try.func167, Try.ntmps167
      go_wp2
      go_ret
      exact ⟨ret_bool (by have := HQ.out; simp [*]), Ext_alloc _ (Ext.refl w)⟩
    · have k_kids : ((kd.length : Int) == kids) = false := by simpa using hq
      go_enter Try.func167, Try.ntmps167
      go_wp2
      go_ret
      exact ⟨ret_bool (by simp [*]), Ext_alloc _ (Ext.refl w)⟩
set_option maxHeartbeats 2000000 in
theorem iPlain0001_c (r : DRule) (Ab : Option Addr) (cb : Nat) (An : Option Addr) (cn : Nat) (At : Option Addr) (ct : Nat) (Ak : Option Addr) (ck : Nat) (kids : Int) (w : World) (hl : r.bytes.length ≤ 9223372036854775807 ∧ r.names.length ≤ 9223372036854775807 ∧ r.tags.length ≤ 9223372036854775807 ∧ r.kids.length ≤ 9223372036854775807) :
    Gives Try.prog 167 #[vrule r (.slice Ab r.bytes.length cb) (.slice An r.names.length cn) (.slice At r.tags.length ct) (.slice Ak r.kids.length ck), .bool false, .bool false, .bool false, .bool true, .int .i64 kids] w (.bool (plainB r false false false true kids)) := by
  obtain ⟨l1, l2, l3, l4⟩ := hl
  unfold plainB
  obtain ⟨nm, kind, size, little, bytes, names, tags, kd⟩ := r
  unfold vrule
  dsimp only at *
  cases g_size : (size == 0)
  · skip
    go_enter Try.func167, Try.ntmps167
    go_wp2
    go_ret
    exact ⟨ret_bool (by simp [*]), Ext_alloc _ (Ext.refl w)⟩
  cases g_bytes : (bytes.length == 0)
  · have k_bytes : (((bytes.length : Nat) : Int) == 0) = false := by simpa using g_bytes
    go_enter Try.func167, Try.ntmps167
    go_wp2
    go_ret
    exact ⟨ret_bool (by simp [*]), Ext_alloc _ (Ext.refl w)⟩
  have k_bytes : (((bytes.length : Nat) : Int) == 0) = true := by simpa using g_bytes
  cases g_names : (names.length == 0)
  · have k_names : (((names.length : Nat) : Int) == 0) = false := by simpa using g_names
    go_enter Try.func167, Try.ntmps167
    go_wp2
    go_ret
    exact ⟨ret_bool (by simp [*]), Ext_alloc _ (Ext.refl w)⟩
  have k_names : (((names.length : Nat) : Int) == 0) = true := by simpa using g_names
  by_cases hk : kids < 0
  · have dk : decide (kids < 0) = true := by simpa using hk
    go_enter Try.func167, Try.ntmps167
    go_wp2
    go_ret
    exact ⟨ret_bool (by simp [*]), Ext_alloc _ (Ext.refl w)⟩
  · have dk : decide (kids < 0) = false := by simpa using hk
    by_cases hq : ((kd.length : Int) = kids)
    · have k_kids : ((kd.length : Int) == kids) = true := by simpa using hq
      have HQ := Lib.hid hq; clear hq
      go_enter Try.func167, Try.ntmps167
      go_wp2
      go_ret
      exact ⟨ret_bool (by have := HQ.out; simp [*]), Ext_alloc _ (Ext.refl w)⟩
    · have k_kids : ((kd.length : Int) == kids) = false := by simpa using hq
      go_enter Try.func167, Try.ntmps167
      go_wp2
      go_ret
      exact ⟨ret_bool (by simp [*]), Ext_alloc _ (Ext.refl w)⟩
end Go.Proofs.Ytlaejcacembjiaa

/- The fields that a rule may have, of the reference. -/
namespace Go.Proofs.Ytlaejcacembjiaa
open Go.RowKit Go.Sort

set_option maxHeartbeats 2000000 in
theorem sShape1000_c (r : DRule) (Ab : Option Addr) (cb : Nat) (An : Option Addr) (cn : Nat) (At : Option Addr) (ct : Nat) (Ak : Option Addr) (ck : Nat) (kids : Int) (w : World) (hl : r.bytes.length ≤ 9223372036854775807 ∧ r.names.length ≤ 9223372036854775807 ∧ r.tags.length ≤ 9223372036854775807 ∧ r.kids.length ≤ 9223372036854775807) :
    Gives Try.prog 162 #[vrule r (.slice Ab r.bytes.length cb) (.slice An r.names.length cn) (.slice At r.tags.length ct) (.slice Ak r.kids.length ck), .bool true, .bool false, .bool false, .bool false, .int .i64 kids] w (.bool (plainB r true false false false kids && (!r.little || r.kind == 1))) := by
  obtain ⟨l1, l2, l3, l4⟩ := hl
  unfold plainB
  obtain ⟨nm, kind, size, little, bytes, names, tags, kd⟩ := r
  unfold vrule
  dsimp only at *
  cases g_bytes : (bytes.length == 0)
  · have k_bytes : (((bytes.length : Nat) : Int) == 0) = false := by simpa using g_bytes
    go_enter Try.func162, Try.ntmps162
    go_wp2
    go_ret
    exact ⟨ret_bool (by simp [*]), Ext_alloc _ (Ext.refl w)⟩
  have k_bytes : (((bytes.length : Nat) : Int) == 0) = true := by simpa using g_bytes
  cases g_names : (names.length == 0)
  · have k_names : (((names.length : Nat) : Int) == 0) = false := by simpa using g_names
    go_enter Try.func162, Try.ntmps162
    go_wp2
    go_ret
    exact ⟨ret_bool (by simp [*]), Ext_alloc _ (Ext.refl w)⟩
  have k_names : (((names.length : Nat) : Int) == 0) = true := by simpa using g_names
  cases g_tags : (tags.length == 0)
  · have k_tags : (((tags.length : Nat) : Int) == 0) = false := by simpa using g_tags
    go_enter Try.func162, Try.ntmps162
    go_wp2
    go_ret
    exact ⟨ret_bool (by simp [*]), Ext_alloc _ (Ext.refl w)⟩
  have k_tags : (((tags.length : Nat) : Int) == 0) = true := by simpa using g_tags
  by_cases hk : kids < 0
  · have dk : decide (kids < 0) = true := by simpa using hk
    cases little
    · go_enter Try.func162, Try.ntmps162
      go_wp2
      go_ret
      exact ⟨ret_bool (by simp [*]), Ext_alloc _ (Ext.refl w)⟩
    · cases g_kind : (kind == 1)
      all_goals
        go_enter Try.func162, Try.ntmps162
        go_wp2
        go_ret
        exact ⟨ret_bool (by simp [*]), Ext_alloc _ (Ext.refl w)⟩
  · have dk : decide (kids < 0) = false := by simpa using hk
    by_cases hq : ((kd.length : Int) = kids)
    · have k_kids : ((kd.length : Int) == kids) = true := by simpa using hq
      have HQ := Lib.hid hq; clear hq
      cases little
      · go_enter Try.func162, Try.ntmps162
        go_wp2
        go_ret
        exact ⟨ret_bool (by have := HQ.out; simp [*]), Ext_alloc _ (Ext.refl w)⟩
      · cases g_kind : (kind == 1)
        all_goals
          go_enter Try.func162, Try.ntmps162
          go_wp2
          go_ret
          exact ⟨ret_bool (by have := HQ.out; simp [*]), Ext_alloc _ (Ext.refl w)⟩
    · have k_kids : ((kd.length : Int) == kids) = false := by simpa using hq
      go_enter Try.func162, Try.ntmps162
      go_wp2
      go_ret
      exact ⟨ret_bool (by simp [*]), Ext_alloc _ (Ext.refl w)⟩
set_option maxHeartbeats 2000000 in
theorem sShape0100_c (r : DRule) (Ab : Option Addr) (cb : Nat) (An : Option Addr) (cn : Nat) (At : Option Addr) (ct : Nat) (Ak : Option Addr) (ck : Nat) (kids : Int) (w : World) (hl : r.bytes.length ≤ 9223372036854775807 ∧ r.names.length ≤ 9223372036854775807 ∧ r.tags.length ≤ 9223372036854775807 ∧ r.kids.length ≤ 9223372036854775807) :
    Gives Try.prog 162 #[vrule r (.slice Ab r.bytes.length cb) (.slice An r.names.length cn) (.slice At r.tags.length ct) (.slice Ak r.kids.length ck), .bool false, .bool true, .bool false, .bool false, .int .i64 kids] w (.bool (plainB r false true false false kids && (!r.little || r.kind == 1))) := by
  obtain ⟨l1, l2, l3, l4⟩ := hl
  unfold plainB
  obtain ⟨nm, kind, size, little, bytes, names, tags, kd⟩ := r
  unfold vrule
  dsimp only at *
  cases g_size : (size == 0)
  · skip
    go_enter Try.func162, Try.ntmps162
    go_wp2
    go_ret
    exact ⟨ret_bool (by simp [*]), Ext_alloc _ (Ext.refl w)⟩
  cases g_names : (names.length == 0)
  · have k_names : (((names.length : Nat) : Int) == 0) = false := by simpa using g_names
    go_enter Try.func162, Try.ntmps162
    go_wp2
    go_ret
    exact ⟨ret_bool (by simp [*]), Ext_alloc _ (Ext.refl w)⟩
  have k_names : (((names.length : Nat) : Int) == 0) = true := by simpa using g_names
  cases g_tags : (tags.length == 0)
  · have k_tags : (((tags.length : Nat) : Int) == 0) = false := by simpa using g_tags
    go_enter Try.func162, Try.ntmps162
    go_wp2
    go_ret
    exact ⟨ret_bool (by simp [*]), Ext_alloc _ (Ext.refl w)⟩
  have k_tags : (((tags.length : Nat) : Int) == 0) = true := by simpa using g_tags
  by_cases hk : kids < 0
  · have dk : decide (kids < 0) = true := by simpa using hk
    cases little
    · go_enter Try.func162, Try.ntmps162
      go_wp2
      go_ret
      exact ⟨ret_bool (by simp [*]), Ext_alloc _ (Ext.refl w)⟩
    · cases g_kind : (kind == 1)
      all_goals
        go_enter Try.func162, Try.ntmps162
        go_wp2
        go_ret
        exact ⟨ret_bool (by simp [*]), Ext_alloc _ (Ext.refl w)⟩
  · have dk : decide (kids < 0) = false := by simpa using hk
    by_cases hq : ((kd.length : Int) = kids)
    · have k_kids : ((kd.length : Int) == kids) = true := by simpa using hq
      have HQ := Lib.hid hq; clear hq
      cases little
      · go_enter Try.func162, Try.ntmps162
        go_wp2
        go_ret
        exact ⟨ret_bool (by have := HQ.out; simp [*]), Ext_alloc _ (Ext.refl w)⟩
      · cases g_kind : (kind == 1)
        all_goals
          go_enter Try.func162, Try.ntmps162
          go_wp2
          go_ret
          exact ⟨ret_bool (by have := HQ.out; simp [*]), Ext_alloc _ (Ext.refl w)⟩
    · have k_kids : ((kd.length : Int) == kids) = false := by simpa using hq
      go_enter Try.func162, Try.ntmps162
      go_wp2
      go_ret
      exact ⟨ret_bool (by simp [*]), Ext_alloc _ (Ext.refl w)⟩
set_option maxHeartbeats 2000000 in
theorem sShape0000_c (r : DRule) (Ab : Option Addr) (cb : Nat) (An : Option Addr) (cn : Nat) (At : Option Addr) (ct : Nat) (Ak : Option Addr) (ck : Nat) (kids : Int) (w : World) (hl : r.bytes.length ≤ 9223372036854775807 ∧ r.names.length ≤ 9223372036854775807 ∧ r.tags.length ≤ 9223372036854775807 ∧ r.kids.length ≤ 9223372036854775807) :
    Gives Try.prog 162 #[vrule r (.slice Ab r.bytes.length cb) (.slice An r.names.length cn) (.slice At r.tags.length ct) (.slice Ak r.kids.length ck), .bool false, .bool false, .bool false, .bool false, .int .i64 kids] w (.bool (plainB r false false false false kids && (!r.little || r.kind == 1))) := by
  obtain ⟨l1, l2, l3, l4⟩ := hl
  unfold plainB
  obtain ⟨nm, kind, size, little, bytes, names, tags, kd⟩ := r
  unfold vrule
  dsimp only at *
  cases g_size : (size == 0)
  · skip
    go_enter Try.func162, Try.ntmps162
    go_wp2
    go_ret
    exact ⟨ret_bool (by simp [*]), Ext_alloc _ (Ext.refl w)⟩
  cases g_bytes : (bytes.length == 0)
  · have k_bytes : (((bytes.length : Nat) : Int) == 0) = false := by simpa using g_bytes
    go_enter Try.func162, Try.ntmps162
    go_wp2
    go_ret
    exact ⟨ret_bool (by simp [*]), Ext_alloc _ (Ext.refl w)⟩
  have k_bytes : (((bytes.length : Nat) : Int) == 0) = true := by simpa using g_bytes
  cases g_names : (names.length == 0)
  · have k_names : (((names.length : Nat) : Int) == 0) = false := by simpa using g_names
    go_enter Try.func162, Try.ntmps162
    go_wp2
    go_ret
    exact ⟨ret_bool (by simp [*]), Ext_alloc _ (Ext.refl w)⟩
  have k_names : (((names.length : Nat) : Int) == 0) = true := by simpa using g_names
  cases g_tags : (tags.length == 0)
  · have k_tags : (((tags.length : Nat) : Int) == 0) = false := by simpa using g_tags
    go_enter Try.func162, Try.ntmps162
    go_wp2
    go_ret
    exact ⟨ret_bool (by simp [*]), Ext_alloc _ (Ext.refl w)⟩
  have k_tags : (((tags.length : Nat) : Int) == 0) = true := by simpa using g_tags
  by_cases hk : kids < 0
  · have dk : decide (kids < 0) = true := by simpa using hk
    cases little
    · go_enter Try.func162, Try.ntmps162
      go_wp2
      go_ret
      exact ⟨ret_bool (by simp [*]), Ext_alloc _ (Ext.refl w)⟩
    · cases g_kind : (kind == 1)
      all_goals
        go_enter Try.func162, Try.ntmps162
        go_wp2
        go_ret
        exact ⟨ret_bool (by simp [*]), Ext_alloc _ (Ext.refl w)⟩
  · have dk : decide (kids < 0) = false := by simpa using hk
    by_cases hq : ((kd.length : Int) = kids)
    · have k_kids : ((kd.length : Int) == kids) = true := by simpa using hq
      have HQ := Lib.hid hq; clear hq
      cases little
      · go_enter Try.func162, Try.ntmps162
        go_wp2
        go_ret
        exact ⟨ret_bool (by have := HQ.out; simp [*]), Ext_alloc _ (Ext.refl w)⟩
      · cases g_kind : (kind == 1)
        all_goals
          go_enter Try.func162, Try.ntmps162
          go_wp2
          go_ret
          exact ⟨ret_bool (by have := HQ.out; simp [*]), Ext_alloc _ (Ext.refl w)⟩
    · have k_kids : ((kd.length : Int) == kids) = false := by simpa using hq
      go_enter Try.func162, Try.ntmps162
      go_wp2
      go_ret
      exact ⟨ret_bool (by simp [*]), Ext_alloc _ (Ext.refl w)⟩
set_option maxHeartbeats 2000000 in
theorem sShape0010_c (r : DRule) (Ab : Option Addr) (cb : Nat) (An : Option Addr) (cn : Nat) (At : Option Addr) (ct : Nat) (Ak : Option Addr) (ck : Nat) (kids : Int) (w : World) (hl : r.bytes.length ≤ 9223372036854775807 ∧ r.names.length ≤ 9223372036854775807 ∧ r.tags.length ≤ 9223372036854775807 ∧ r.kids.length ≤ 9223372036854775807) :
    Gives Try.prog 162 #[vrule r (.slice Ab r.bytes.length cb) (.slice An r.names.length cn) (.slice At r.tags.length ct) (.slice Ak r.kids.length ck), .bool false, .bool false, .bool true, .bool false, .int .i64 kids] w (.bool (plainB r false false true false kids && (!r.little || r.kind == 1))) := by
  obtain ⟨l1, l2, l3, l4⟩ := hl
  unfold plainB
  obtain ⟨nm, kind, size, little, bytes, names, tags, kd⟩ := r
  unfold vrule
  dsimp only at *
  cases g_size : (size == 0)
  · skip
    go_enter Try.func162, Try.ntmps162
    go_wp2
    go_ret
    exact ⟨ret_bool (by simp [*]), Ext_alloc _ (Ext.refl w)⟩
  cases g_bytes : (bytes.length == 0)
  · have k_bytes : (((bytes.length : Nat) : Int) == 0) = false := by simpa using g_bytes
    go_enter Try.func162, Try.ntmps162
    go_wp2
    go_ret
    exact ⟨ret_bool (by simp [*]), Ext_alloc _ (Ext.refl w)⟩
  have k_bytes : (((bytes.length : Nat) : Int) == 0) = true := by simpa using g_bytes
  cases g_tags : (tags.length == 0)
  · have k_tags : (((tags.length : Nat) : Int) == 0) = false := by simpa using g_tags
    go_enter Try.func162, Try.ntmps162
    go_wp2
    go_ret
    exact ⟨ret_bool (by simp [*]), Ext_alloc _ (Ext.refl w)⟩
  have k_tags : (((tags.length : Nat) : Int) == 0) = true := by simpa using g_tags
  by_cases hk : kids < 0
  · have dk : decide (kids < 0) = true := by simpa using hk
    cases little
    · go_enter Try.func162, Try.ntmps162
      go_wp2
      go_ret
      exact ⟨ret_bool (by simp [*]), Ext_alloc _ (Ext.refl w)⟩
    · cases g_kind : (kind == 1)
      all_goals
        go_enter Try.func162, Try.ntmps162
        go_wp2
        go_ret
        exact ⟨ret_bool (by simp [*]), Ext_alloc _ (Ext.refl w)⟩
  · have dk : decide (kids < 0) = false := by simpa using hk
    by_cases hq : ((kd.length : Int) = kids)
    · have k_kids : ((kd.length : Int) == kids) = true := by simpa using hq
      have HQ := Lib.hid hq; clear hq
      cases little
      · go_enter Try.func162, Try.ntmps162
        go_wp2
        go_ret
        exact ⟨ret_bool (by have := HQ.out; simp [*]), Ext_alloc _ (Ext.refl w)⟩
      · cases g_kind : (kind == 1)
        all_goals
          go_enter Try.func162, Try.ntmps162
          go_wp2
          go_ret
          exact ⟨ret_bool (by have := HQ.out; simp [*]), Ext_alloc _ (Ext.refl w)⟩
    · have k_kids : ((kd.length : Int) == kids) = false := by simpa using hq
      go_enter Try.func162, Try.ntmps162
      go_wp2
      go_ret
      exact ⟨ret_bool (by simp [*]), Ext_alloc _ (Ext.refl w)⟩
set_option maxHeartbeats 2000000 in
theorem sShape0001_c (r : DRule) (Ab : Option Addr) (cb : Nat) (An : Option Addr) (cn : Nat) (At : Option Addr) (ct : Nat) (Ak : Option Addr) (ck : Nat) (kids : Int) (w : World) (hl : r.bytes.length ≤ 9223372036854775807 ∧ r.names.length ≤ 9223372036854775807 ∧ r.tags.length ≤ 9223372036854775807 ∧ r.kids.length ≤ 9223372036854775807) :
    Gives Try.prog 162 #[vrule r (.slice Ab r.bytes.length cb) (.slice An r.names.length cn) (.slice At r.tags.length ct) (.slice Ak r.kids.length ck), .bool false, .bool false, .bool false, .bool true, .int .i64 kids] w (.bool (plainB r false false false true kids && (!r.little || r.kind == 1))) := by
  obtain ⟨l1, l2, l3, l4⟩ := hl
  unfold plainB
  obtain ⟨nm, kind, size, little, bytes, names, tags, kd⟩ := r
  unfold vrule
  dsimp only at *
  cases g_size : (size == 0)
  · skip
    go_enter Try.func162, Try.ntmps162
    go_wp2
    go_ret
    exact ⟨ret_bool (by simp [*]), Ext_alloc _ (Ext.refl w)⟩
  cases g_bytes : (bytes.length == 0)
  · have k_bytes : (((bytes.length : Nat) : Int) == 0) = false := by simpa using g_bytes
    go_enter Try.func162, Try.ntmps162
    go_wp2
    go_ret
    exact ⟨ret_bool (by simp [*]), Ext_alloc _ (Ext.refl w)⟩
  have k_bytes : (((bytes.length : Nat) : Int) == 0) = true := by simpa using g_bytes
  cases g_names : (names.length == 0)
  · have k_names : (((names.length : Nat) : Int) == 0) = false := by simpa using g_names
    go_enter Try.func162, Try.ntmps162
    go_wp2
    go_ret
    exact ⟨ret_bool (by simp [*]), Ext_alloc _ (Ext.refl w)⟩
  have k_names : (((names.length : Nat) : Int) == 0) = true := by simpa using g_names
  by_cases hk : kids < 0
  · have dk : decide (kids < 0) = true := by simpa using hk
    cases little
    · go_enter Try.func162, Try.ntmps162
      go_wp2
      go_ret
      exact ⟨ret_bool (by simp [*]), Ext_alloc _ (Ext.refl w)⟩
    · cases g_kind : (kind == 1)
      all_goals
        go_enter Try.func162, Try.ntmps162
        go_wp2
        go_ret
        exact ⟨ret_bool (by simp [*]), Ext_alloc _ (Ext.refl w)⟩
  · have dk : decide (kids < 0) = false := by simpa using hk
    by_cases hq : ((kd.length : Int) = kids)
    · have k_kids : ((kd.length : Int) == kids) = true := by simpa using hq
      have HQ := Lib.hid hq; clear hq
      cases little
      · go_enter Try.func162, Try.ntmps162
        go_wp2
        go_ret
        exact ⟨ret_bool (by have := HQ.out; simp [*]), Ext_alloc _ (Ext.refl w)⟩
      · cases g_kind : (kind == 1)
        all_goals
          go_enter Try.func162, Try.ntmps162
          go_wp2
          go_ret
          exact ⟨ret_bool (by have := HQ.out; simp [*]), Ext_alloc _ (Ext.refl w)⟩
    · have k_kids : ((kd.length : Int) == kids) = false := by simpa using hq
      go_enter Try.func162, Try.ntmps162
      go_wp2
      go_ret
      exact ⟨ret_bool (by simp [*]), Ext_alloc _ (Ext.refl w)⟩
end Go.Proofs.Ytlaejcacembjiaa

/- Sequences and choices. -/
namespace Go.Proofs.Ytlaejcacembjiaa
open Go.RowKit Go.Sort

theorem RdS.lens {w : World} {r : DRule} {Ab : Option Addr} {cb : Nat} {An : Option Addr} {cn : Nat} {At : Option Addr} {ct : Nat} {Ak : Option Addr} {ck : Nat} (h : RdS w r Ab cb An cn At ct Ak ck) :
    r.bytes.length ≤ 9223372036854775807 ∧ r.names.length ≤ 9223372036854775807 ∧ r.tags.length ≤ 9223372036854775807 ∧ r.kids.length ≤ 9223372036854775807 := ⟨h.b.len, h.n.len, h.t.len, h.k.len⟩
theorem Rd0.take {α : Type} {f : α → Value} {w : World} {A : Option Addr} {l : List α} {c : Nat} (h : Rd0 f w A l c) (n : Nat) (hn : n ≤ l.length) : Rd0 f w A (l.take n) c := by
  have hl : (l.take n).length = n := by simp; omega
  refine ⟨by have := h.cap; omega, by have := h.len; omega, fun hp => ?_⟩
  obtain ⟨b, off, h1, h2, h3⟩ := h.2.2 (by omega)
  refine ⟨b, off, h1, h2, fun w' e i hi => ?_⟩
  rw [h3 w' e i (by omega)]
  simp
theorem nameOk_at {l : List ByteArray} {k : Nat} (h : k < l.length) : nameOk l k = (isName l[k] && !hasNm (l.take k) l[k]) := by
  unfold nameOk; rw [List.getElem?_eq_getElem h]
theorem tagOk_at {lim : Int} {l : List Int} {k : Nat} (h : k < l.length) : tagOk lim l k = (between l[k] 0 lim && (k == 0 || decide (l.getD (k - 1) 0 < l[k]))) := by
  unfold tagOk; rw [List.getElem?_eq_getElem h]
/-- the names of a sequence, of the reference -/
def namesB (l : List ByteArray) : Bool := between l.length 1 8 && allN l.length (nameOk l)
set_option maxRecDepth 100000 in
set_option maxHeartbeats 2000000 in
theorem sNames_c (A : Option Addr) (l : List ByteArray) (c : Nat) (w : World) (h : Rd0 vstr w A l c) (hw : ∀ s ∈ l, s.size ≤ 9223372036854775807) :
    Gives Try.prog 164 #[.slice A l.length c] w (.bool (namesB l)) := by
  have hl := h.len
  have hcap := h.cap
  go_enter Try.func164, Try.ntmps164
  go_wp2
  go_loopw [3] (fun i wr => ∃ k : Nat, k ≤ l.length ∧ i = .int .i64 k ∧ Hid (∀ j, j < k → nameOk l j = true) ∧ Ext w wr) (fun i _ => l.length - (intOf i).toNat)
  case atStart => exact ⟨0, by omega, rfl, (fun j hj => by omega), Ext.refl _⟩
  case round =>
    obtain ⟨k, hk, rfl, ht, he⟩ := hrel
    by_cases hlt : k < l.length
    · obtain ⟨b, off, hA, hb, hc⟩ := h.at k hlt
      have HT := h.take k (by omega)
      have HN := Lib.hid (nameOk_at hlt)
      have NO : Hid (nameOk l k = false → namesB l = false) := fun hf => by unfold namesB; rw [allN_no hlt hf, Bool.and_false]
      have YES : Hid (nameOk l k = true → ∀ j, j < k + 1 → nameOk l j = true) := upTo ht.out
      have CN := Lib.hid (fun w => sIsName_c l[k] w (hw _ (List.getElem_mem hlt)))
      have hlk : (l.take k).length = k := by simp; omega
      have CC : Hid (∀ w' s, Ext w w' → Gives Try.prog 46 #[.slice A k c, .string s] w' (.bool (hasNm (l.take k) s))) := fun w' s e => by
        have := sContains_c A (l.take k) c s w' (HT.ext e)
        rwa [hlk] at this
      subst hA
      generalize l[k] = x at *
      generalize isName x = q1 at *
      have hc0 : (0 : Int) ≤ (k : Int) := by omega
      have hc1 : (k : Int) ≤ (c : Int) := by omega
      clear HT h hlk
      cases q1
      · have HR : Hid (nameOk l k = false) := by show _ = _; rw [HN.out]; rfl
        have HE := Lib.hid (NO.out HR.out)
        clear NO YES HN HR
        go_wp2_with fail
        refine wp_region_quiet_below (by kernel_rfl) (by kernel_rfl) ?_
        repeat (go_big_quiet_step ((go_at_call 141; exact Calls.regrown_of (CN.out _))))
        refine wpQuiet_nil ?_
        rintro w1 ⟨⟨nq, osq⟩, hq⟩
        have ew1 := ext_of_q hq
        clear hq nq osq
        go_wp2
        go_ret
        exact ⟨ret_bool HE.out.symm, he.trans ew1⟩
      · have CD := Lib.hid (fun w' e => CC.out w' x e)
        generalize hasNm (l.take k) x = q2 at *
        cases q2
        · have HR : Hid (nameOk l k = true) := by show _ = _; rw [HN.out]; rfl
          have HE := Lib.hid (YES.out HR.out)
          clear NO YES HN HR CC
          go_wp2_with fail
          refine wp_region_quiet_below (by kernel_rfl) (by kernel_rfl) ?_
          repeat (go_big_quiet_step ((first | (go_at_call 141; exact Calls.regrown_of (CN.out _)) | (go_at_call 46; exact Calls.regrown_of (CD.out _ (by first | assumption | exact Ext_regrown _ _ he))))))
          refine wpQuiet_nil ?_
          rintro w1 ⟨⟨nq, osq⟩, hq⟩
          have ew1 := ext_of_q hq
          clear hq nq osq
          go_wp2
          go_roundw
          case rel => exact ⟨k+1, by omega, by go_num, HE.out, he.trans ew1⟩
          case measure => simp [intOf]; omega
        · have HR : Hid (nameOk l k = false) := by show _ = _; rw [HN.out]; rfl
          have HE := Lib.hid (NO.out HR.out)
          clear NO YES HN HR CC
          go_wp2_with fail
          refine wp_region_quiet_below (by kernel_rfl) (by kernel_rfl) ?_
          repeat (go_big_quiet_step ((first | (go_at_call 141; exact Calls.regrown_of (CN.out _)) | (go_at_call 46; exact Calls.regrown_of (CD.out _ (by first | assumption | exact Ext_regrown _ _ he))))))
          refine wpQuiet_nil ?_
          rintro w1 ⟨⟨nq, osq⟩, hq⟩
          have ew1 := ext_of_q hq
          clear hq nq osq
          go_wp2
          go_ret
          exact ⟨ret_bool HE.out.symm, he.trans ew1⟩
    · have HE : Hid (namesB l = (decide ((1 : Int) ≤ (l.length : Int)) && decide ((l.length : Int) ≤ 8))) := by
        show _ = _; unfold namesB between; rw [allN_yes (fun j hj => ht.out j (by omega)), Bool.and_true]
      go_wp2_with (go_at_call 104; refine (l1In_c _ _ _ _).mono ?_; rintro _ w1 ⟨rfl, he1⟩)
      go_ret
      exact ⟨ret_bool HE.out.symm, he.trans he1⟩
set_option maxRecDepth 100000 in
set_option maxHeartbeats 4000000 in
theorem iSeq_c (r : DRule) (Ab : Option Addr) (cb : Nat) (An : Option Addr) (cn : Nat) (At : Option Addr) (ct : Nat) (Ak : Option Addr) (ck : Nat) (w : World) (h : RdS w r Ab cb An cn At ct Ak ck) (hw : WfR r) :
    Gives Try.prog 169 #[vrule r (.slice Ab r.bytes.length cb) (.slice An r.names.length cn) (.slice At r.tags.length ct) (.slice Ak r.kids.length ck)] w (.bool (seqOk r)) := by
  have eb := Ext_alloc (.cells #[.string r.nm, .int .i64 r.kind, .int .i64 r.size, .bool r.little, .slice Ab r.bytes.length cb, .slice An r.names.length cn, .slice At r.tags.length ct, .slice Ak r.kids.length ck] 76) (Ext.refl w)
  have B := fun w' (e : Ext (w.alloc (.cells #[.string r.nm, .int .i64 r.kind, .int .i64 r.size, .bool r.little, .slice Ab r.bytes.length cb, .slice An r.names.length cn, .slice At r.tags.length ct, .slice Ak r.kids.length ck] 76)) w') => boxed e
  have CP := Lib.hid (fun w => iPlain0010_c r Ab cb An cn At ct Ak ck (-1) w h.lens)
  obtain ⟨hl1, hl2, hl3, hl4⟩ := h.lens
  have hN := h.n
  have hcap := hN.cap
  have hwn := Lib.hid hw.names
  clear h hw
  unfold seqOk
  generalize plainB r false false true false (-1) = p at *
  unfold vrule at *
  cases p
  · go_enter Try.func169, Try.ntmps169
    go_wp2_with fail
    refine (CP.out _).mono ?_; rintro _ w1 ⟨rfl, he1⟩
    go_wp2
    go_ret
    exact ⟨ret_bool (by simp), eb.trans he1⟩
  by_cases hlen : r.kids.length = r.names.length
  · have CI := Lib.hid (fun w => iInRange_c (r.kids.length : Int) 1 8 w)
    have HB : Hid (between r.kids.length 1 8 = (decide ((1 : Int) ≤ (r.kids.length : Int)) && decide ((r.kids.length : Int) ≤ 8))) := rfl
    have g1 : ((r.kids.length : Int) != (r.names.length : Int)) = false := by simp [hlen]
    have g2 : (r.kids.length == r.names.length) = true := by simp [hlen]
    rw [← HB.out] at CI
    rw [g2]
    clear hlen g2 HB
    generalize between r.kids.length 1 8 = p2 at *
    cases p2
    · go_enter Try.func169, Try.ntmps169
      go_wp2_with fail
      refine (CP.out _).mono ?_; rintro _ w1 ⟨rfl, he1⟩
      go_wp2_with fail
      refine (CI.out _).mono ?_; rintro _ w2 ⟨rfl, he2⟩
      go_wp2
      go_ret
      exact ⟨ret_bool (by simp), eb.trans (he1.trans he2)⟩
    · go_enter Try.func169, Try.ntmps169
      go_wp2_with fail
      refine (CP.out _).mono ?_; rintro _ w1 ⟨rfl, he1⟩
      go_wp2_with fail
      refine (CI.out _).mono ?_; rintro _ w2 ⟨rfl, he2⟩
      have e2 := he1.trans he2
      clear he1 he2 g1 CP CI
      go_wp2
      go_loopw [27] (fun i wr => ∃ k : Nat, k ≤ r.names.length ∧ i = .int .i64 k ∧ Hid (∀ j, j < k → nameOk r.names j = true) ∧ Ext (w.alloc (.cells #[.string r.nm, .int .i64 r.kind, .int .i64 r.size, .bool r.little, .slice Ab r.bytes.length cb, .slice An r.names.length cn, .slice At r.tags.length ct, .slice Ak r.kids.length ck] 76)) wr) (fun i _ => r.names.length - (intOf i).toNat)
      case atStart => exact ⟨0, by omega, rfl, (fun j hj => by omega), e2⟩
      case round =>
        clear e2
        obtain ⟨k, hk, rfl, ht, he⟩ := hrel
        by_cases hlt : k < r.names.length
        · have HT := hN.take k (by omega)
          have HNm := Lib.hid (nameOk_at hlt)
          have NO : Hid (nameOk r.names k = false → allN r.names.length (nameOk r.names) = false) := fun hf => allN_no hlt hf
          have YES : Hid (nameOk r.names k = true → ∀ j, j < k + 1 → nameOk r.names j = true) := upTo ht.out
          have CN := Lib.hid (fun w => iIsName_c r.names[k] w (hwn.out _ (List.getElem_mem hlt)))
          have hlk : (r.names.take k).length = k := by simp; omega
          have CC : Hid (∀ w' s, Ext w w' → Gives Try.prog 96 #[.slice An k cn, .string s] w' (.bool (hasNm (r.names.take k) s))) := fun w' s e => by
            have := iContains_c An (r.names.take k) cn s w' (HT.ext e)
            rwa [hlk] at this
          obtain ⟨b, off, rfl, hb, hc⟩ := hN.at k hlt
          have hcw := fun w' (e : Ext _ w') => hc w' (eb.trans e)
          generalize r.names[k] = x at *
          generalize isName x = q1 at *
          have hc0 : (0 : Int) ≤ (k : Int) := by omega
          have hc1 : (k : Int) ≤ (cn : Int) := by omega
          clear HT hlk hc hN
          cases q1
          · have HR : Hid (nameOk r.names k = false) := by show _ = _; rw [HNm.out]; rfl
            have HE := Lib.hid (NO.out HR.out)
            clear NO YES HNm HR
            go_wp2_with fail
            refine (CN.out _).mono ?_; rintro _ w3 ⟨rfl, he3⟩
            go_wp2
            go_ret
            exact ⟨ret_bool (by rw [HE.out]; simp), eb.trans (he.trans he3)⟩
          · have CD := Lib.hid (fun w' e => CC.out w' x e)
            generalize hasNm (r.names.take k) x = q2 at *
            cases q2
            · have HR : Hid (nameOk r.names k = true) := by show _ = _; rw [HNm.out]; rfl
              have HE := Lib.hid (YES.out HR.out)
              clear NO YES HNm HR CC
              go_wp2_with fail
              refine (CN.out _).mono ?_; rintro _ w3 ⟨rfl, he3⟩
              have e3 := he.trans he3
              go_wp2_with fail
              refine (CD.out _ (eb.trans e3)).mono ?_; rintro _ w4 ⟨rfl, he4⟩
              go_wp2
              go_roundw
              case rel => exact ⟨k+1, by omega, by go_num, HE.out, e3.trans he4⟩
              case measure => simp [intOf]; omega
            · have HR : Hid (nameOk r.names k = false) := by show _ = _; rw [HNm.out]; rfl
              have HE := Lib.hid (NO.out HR.out)
              clear NO YES HNm HR CC
              go_wp2_with fail
              refine (CN.out _).mono ?_; rintro _ w3 ⟨rfl, he3⟩
              have e3 := he.trans he3
              go_wp2_with fail
              refine (CD.out _ (eb.trans e3)).mono ?_; rintro _ w4 ⟨rfl, he4⟩
              go_wp2
              go_ret
              exact ⟨ret_bool (by rw [HE.out]; simp), eb.trans (e3.trans he4)⟩
        · have HE : Hid (allN r.names.length (nameOk r.names) = true) := allN_yes (fun j hj => ht.out j (by omega))
          go_wp2
          go_ret
          exact ⟨ret_bool (by rw [HE.out]; simp), eb.trans he⟩
  · have g1 : ((r.kids.length : Int) != (r.names.length : Int)) = true := by simp; omega
    have g2 : (r.kids.length == r.names.length) = false := by simpa using hlen
    rw [g2]
    clear hlen g2
    go_enter Try.func169, Try.ntmps169
    go_wp2_with fail
    refine (CP.out _).mono ?_; rintro _ w1 ⟨rfl, he1⟩
    go_wp2
    go_ret
    exact ⟨ret_bool (by simp), eb.trans he1⟩
/-- the tags of a choice, of the reference -/
def tagsB (ds : List DRule) (r : DRule) : Bool := r.kids.length == r.tags.length + 1 && between r.tags.length 1 8 && allN r.tags.length (tagOk (limD ds (r.kids.getD 0 0)) r.tags)
theorem tagOk_zero {lim : Int} {l : List Int} {k : Nat} (h : k < l.length) (hz : k = 0) : tagOk lim l k = between l[k] 0 lim := by rw [tagOk_at h]; simp [hz]
theorem tagOk_succ {lim : Int} {l : List Int} {m : Nat} (h : m + 1 < l.length) : tagOk lim l (m + 1) = (between l[m + 1] 0 lim && !decide (l[m + 1] ≤ l[m])) := by
  rw [tagOk_at h]
  have : l.getD (m + 1 - 1) 0 = l[m] := by simp [List.getD_eq_getElem?_getD, List.getElem?_eq_getElem (show m < l.length by omega)]
  rw [this]
  by_cases h2 : l[m] < l[m + 1]
  · rw [decide_eq_true h2, decide_eq_false (show ¬ l[m + 1] ≤ l[m] by omega)]; simp
  · rw [decide_eq_false h2, decide_eq_true (show l[m + 1] ≤ l[m] by omega)]; simp
theorem wrap_back (m : Nat) (h : m ≤ 9223372036854775807) : IntKind.i64.wrap ((m : Int) + 1 - 1) = (m : Int) := by
  rw [show (m : Int) + 1 - 1 = (m : Int) by omega]; exact IntWalk.i64_in _ (by omega)
set_option maxRecDepth 100000 in
set_option maxHeartbeats 4000000 in
theorem sTags_c (A : Option Addr) (ds : List DRule) (c : Nat) (r : DRule) (Ab : Option Addr) (cb : Nat) (An : Option Addr) (cn : Nat) (At : Option Addr) (ct : Nat) (Ak : Option Addr) (ck : Nat) (w : World) (hd : RdD w A ds c) (h : RdS w r Ab cb An cn At ct Ak ck) (hs : ShortR r) :
    Gives Try.prog 165 #[vdesc (.slice A ds.length c), vrule r (.slice Ab r.bytes.length cb) (.slice An r.names.length cn) (.slice At r.tags.length ct) (.slice Ak r.kids.length ck)] w (.bool (tagsB ds r)) := by
  have eb := Ext_alloc (.cells #[.string r.nm, .int .i64 r.kind, .int .i64 r.size, .bool r.little, .slice Ab r.bytes.length cb, .slice An r.names.length cn, .slice At r.tags.length ct, .slice Ak r.kids.length ck] 76) (Ext_alloc (.cells #[.slice A ds.length c] 38) (Ext.refl w))
  have BX := fun w' (e : Ext ((w.alloc (.cells #[.slice A ds.length c] 38)).alloc (.cells #[.string r.nm, .int .i64 r.kind, .int .i64 r.size, .bool r.little, .slice Ab r.bytes.length cb, .slice An r.names.length cn, .slice At r.tags.length ct, .slice Ak r.kids.length ck] 76)) w') => boxed2 e
  have B0 := fun w' e => (BX w' e).1
  have B1 := fun w' e => (BX w' e).2.1
  clear BX
  obtain ⟨hl1, hl2, hl3, hl4⟩ := hs
  have hT := h.t; have hK := h.k
  clear h
  unfold vrule vdesc at *
  unfold tagsB
  by_cases hlen : r.kids.length = r.tags.length + 1
  · have g1 : ((r.kids.length : Int) != (r.tags.length : Int) + 1) = false := by simp; omega
    have g2 : (r.kids.length == r.tags.length + 1) = true := by simpa using hlen
    rw [g2]
    have CI := Lib.hid (fun w => l1In_c (r.tags.length : Int) 1 8 w)
    have HB : Hid (between r.tags.length 1 8 = (decide ((1 : Int) ≤ (r.tags.length : Int)) && decide ((r.tags.length : Int) ≤ 8))) := rfl
    rw [← HB.out] at CI
    have HLEN := Lib.hid hlen
    clear g2 HB hlen
    generalize between r.tags.length 1 8 = p2 at *
    cases p2
    · go_enter Try.func165, Try.ntmps165
      go_wp2_with fail
      refine (CI.out _).mono ?_; rintro _ w2 ⟨rfl, he2⟩
      go_wp2
      go_ret
      exact ⟨ret_bool (by simp), eb.trans he2⟩
    · have hk0 : 0 < r.kids.length := by have := HLEN.out; omega
      obtain ⟨bk, ok, rfl, hbk, hck⟩ := hK.at 0 hk0
      have HG : Hid (r.kids.getD 0 0 = r.kids[0]) := by show _ = _; simp [List.getD_eq_getElem?_getD, List.getElem?_eq_getElem hk0]
      rw [HG.out]
      rw [Nat.add_zero] at hck
      generalize r.kids[0] = kid at *
      have CL := Lib.hid (fun w h => sLimit_c A ds c kid w h)
      unfold vdesc at CL
      generalize limD ds kid = lim at *
      have hck' := fun w' (e : Ext _ w') => hck w' (eb.trans e)
      clear hck hK HG
      go_enter Try.func165, Try.ntmps165
      go_wp2_with fail
      refine (CI.out _).mono ?_; rintro _ w2 ⟨rfl, he2⟩
      clear CI g1
      go_wp2
      go_loopw [5] (fun i wr => ∃ k : Nat, k ≤ r.tags.length ∧ i = .int .i64 k ∧ Hid (∀ j, j < k → tagOk lim r.tags j = true) ∧ Ext _ wr) (fun i _ => r.tags.length - (intOf i).toNat)
      case atStart => exact ⟨0, by omega, rfl, (fun j hj => by omega), he2⟩
      case round =>
        clear he2
        obtain ⟨k, hk, rfl, ht, he⟩ := hrel
        by_cases hlt : k < r.tags.length
        · obtain ⟨b, off, rfl, hb, hc⟩ := hT.at k hlt
          have hc' := fun w' (e : Ext _ w') => hc w' (eb.trans e)
          have NO : Hid (tagOk lim r.tags k = false → allN r.tags.length (tagOk lim r.tags) = false) := fun hf => allN_no hlt hf
          have YES : Hid (tagOk lim r.tags k = true → ∀ j, j < k + 1 → tagOk lim r.tags j = true) := upTo ht.out
          have CB := Lib.hid (fun w => l1In_c r.tags[k] 0 lim w)
          have HB : Hid (between r.tags[k] 0 lim = (decide ((0 : Int) ≤ r.tags[k]) && decide (r.tags[k] ≤ lim))) := rfl
          rw [← HB.out] at CB
          clear HB
          rcases Nat.eq_zero_or_pos k with hz | hpos
          · have HN := Lib.hid (tagOk_zero (lim := lim) hlt hz)
            have d1 : decide ((0 : Int) < (k : Int)) = false := by simp; omega
            have d2 : decide (0 < k) = false := by simp; omega
            clear hz
            generalize r.tags[k] = x at *
            generalize between x 0 lim = q1 at *
            clear hc hT ht
            cases q1
            · have HE := Lib.hid (NO.out HN.out); clear NO YES HN
              go_wp2_with fail
              refine wp_region_quiet_below (by kernel_rfl) (by kernel_rfl) ?_
              repeat (go_big_quiet_step ((first | (go_at_call 163; exact Calls.regrown_of (CL.out _ (hd.ext (eb.trans (by first | assumption | exact Ext_regrown _ _ he))))) | (go_at_call 104; exact Calls.regrown_of (CB.out _)))))
              refine wpQuiet_nil ?_
              rintro w1 ⟨⟨nq, osq⟩, hq⟩
              have ew1 := ext_of_q hq
              clear hq nq osq
              go_wp2
              go_ret
              exact ⟨ret_bool (by rw [HE.out]; simp), eb.trans (he.trans ew1)⟩
            · have HE := Lib.hid (YES.out HN.out); clear NO YES HN
              go_wp2_with fail
              refine wp_region_quiet_below (by kernel_rfl) (by kernel_rfl) ?_
              repeat (go_big_quiet_step ((first | (go_at_call 163; exact Calls.regrown_of (CL.out _ (hd.ext (eb.trans (by first | assumption | exact Ext_regrown _ _ he))))) | (go_at_call 104; exact Calls.regrown_of (CB.out _)))))
              refine wpQuiet_nil ?_
              rintro w1 ⟨⟨nq, osq⟩, hq⟩
              have ew1 := ext_of_q hq
              clear hq nq osq
              go_wp2
              go_roundw
              case rel => exact ⟨k+1, by omega, by go_num, HE.out, he.trans ew1⟩
              case measure => simp [intOf]; omega
          · obtain ⟨m, rfl⟩ : ∃ m, k = m + 1 := ⟨k - 1, by omega⟩
            have HN := Lib.hid (tagOk_succ (lim := lim) hlt)
            obtain ⟨b', off', hh, _, hcm⟩ := hT.at m (by omega)
            obtain ⟨rfl, rfl⟩ : b = b' ∧ off = off' := by injection hh with hh; injection hh with h1 h2; exact ⟨h1, h2⟩
            have hcm' := fun w' (e : Ext _ w') => hcm w' (eb.trans e)
            have hwm := wrap_back m (by omega)
            generalize r.tags[m + 1] = x at *
            generalize r.tags[m] = y at *
            generalize between x 0 lim = q1 at *
            clear hc hT ht hcm hh
            cases q1
            · have HE := Lib.hid (NO.out (HN.out.trans (by simp))); clear NO YES HN
              go_wp2_with fail
              refine wp_region_quiet_below (by kernel_rfl) (by kernel_rfl) ?_
              repeat (go_big_quiet_step ((first | (go_at_call 163; exact Calls.regrown_of (CL.out _ (hd.ext (eb.trans (by first | assumption | exact Ext_regrown _ _ he))))) | (go_at_call 104; exact Calls.regrown_of (CB.out _)))))
              refine wpQuiet_nil ?_
              rintro w1 ⟨⟨nq, osq⟩, hq⟩
              have ew1 := ext_of_q hq
              clear hq nq osq
              go_wp2
              go_ret
              exact ⟨ret_bool (by rw [HE.out]; simp), eb.trans (he.trans ew1)⟩
            · cases hq : decide (x ≤ y)
              · have HE := Lib.hid (YES.out (HN.out.trans (by rw [hq]; simp))); clear NO YES HN
                go_wp2_with fail
                refine wp_region_quiet_below (by kernel_rfl) (by kernel_rfl) ?_
                repeat (go_big_quiet_step ((first | (go_at_call 163; exact Calls.regrown_of (CL.out _ (hd.ext (eb.trans (by first | assumption | exact Ext_regrown _ _ he))))) | (go_at_call 104; exact Calls.regrown_of (CB.out _)))))
                refine wpQuiet_nil ?_
                rintro w1 ⟨⟨nq, osq⟩, hq⟩
                have ew1 := ext_of_q hq
                clear hq nq osq
                go_wp2
                go_roundw
                case rel => exact ⟨m+2, by omega, by go_num, HE.out, he.trans ew1⟩
                case measure => simp [intOf]; omega
              · have HE := Lib.hid (NO.out (HN.out.trans (by rw [hq]; simp))); clear NO YES HN
                go_wp2_with fail
                refine wp_region_quiet_below (by kernel_rfl) (by kernel_rfl) ?_
                repeat (go_big_quiet_step ((first | (go_at_call 163; exact Calls.regrown_of (CL.out _ (hd.ext (eb.trans (by first | assumption | exact Ext_regrown _ _ he))))) | (go_at_call 104; exact Calls.regrown_of (CB.out _)))))
                refine wpQuiet_nil ?_
                rintro w1 ⟨⟨nq, osq⟩, hq⟩
                have ew1 := ext_of_q hq
                clear hq nq osq
                go_wp2
                go_ret
                exact ⟨ret_bool (by rw [HE.out]; simp), eb.trans (he.trans ew1)⟩
        · have HE : Hid (allN r.tags.length (tagOk lim r.tags) = true) := allN_yes (fun j hj => ht.out j (by omega))
          go_wp2
          go_ret
          exact ⟨ret_bool (by rw [HE.out]; simp), eb.trans he⟩
  · have g1 : ((r.kids.length : Int) != (r.tags.length : Int) + 1) = true := by simp; omega
    have g2 : (r.kids.length == r.tags.length + 1) = false := by simpa using hlen
    rw [g2]
    clear hlen g2
    go_enter Try.func165, Try.ntmps165
    go_wp2
    go_ret
    exact ⟨ret_bool (by simp), eb⟩
theorem plainB_kids {r : DRule} {a b c d : Bool} {k : Nat} (h : plainB r a b c d (k : Int) = true) : r.kids.length = k := by
  unfold plainB at h
  simp only [Bool.and_eq_true, Bool.or_eq_true, decide_eq_true_eq] at h
  omega
theorem lim_pos {lim : Int} (hl : lim = -1 ∨ lim = 255 ∨ lim = 65535 ∨ lim = 16777215 ∨ lim = 4294967295) {l : List Int} (h : 0 < l.length) (ht : ∀ j, j < l.length → tagOk lim l j = true) : decide (0 < lim) = true := by
  have h0 := ht 0 h
  rw [tagOk_zero h rfl] at h0
  unfold between at h0
  simp only [Bool.and_eq_true, decide_eq_true_eq] at h0
  simp; omega
set_option maxRecDepth 100000 in
set_option maxHeartbeats 4000000 in
theorem iChoice_c (A : Option Addr) (ds : List DRule) (c : Nat) (r : DRule) (Ab : Option Addr) (cb : Nat) (An : Option Addr) (cn : Nat) (At : Option Addr) (ct : Nat) (Ak : Option Addr) (ck : Nat) (w : World) (hd : RdD w A ds c) (h : RdS w r Ab cb An cn At ct Ak ck) (hs : ShortR r) :
    Gives Try.prog 170 #[vdesc (.slice A ds.length c), vrule r (.slice Ab r.bytes.length cb) (.slice An r.names.length cn) (.slice At r.tags.length ct) (.slice Ak r.kids.length ck)] w (.bool (choOk ds r)) := by
  have eb := Ext_alloc (.cells #[.string r.nm, .int .i64 r.kind, .int .i64 r.size, .bool r.little, .slice Ab r.bytes.length cb, .slice An r.names.length cn, .slice At r.tags.length ct, .slice Ak r.kids.length ck] 76) (Ext_alloc (.cells #[.slice A ds.length c] 38) (Ext.refl w))
  have BX := fun w' (e : Ext ((w.alloc (.cells #[.slice A ds.length c] 38)).alloc (.cells #[.string r.nm, .int .i64 r.kind, .int .i64 r.size, .bool r.little, .slice Ab r.bytes.length cb, .slice An r.names.length cn, .slice At r.tags.length ct, .slice Ak r.kids.length ck] 76)) w') => boxed2 e
  have B0 := fun w' e => (BX w' e).1
  have B1 := fun w' e => (BX w' e).2.1
  clear BX
  have CP := Lib.hid (fun w => iPlain0001_c r Ab cb An cn At ct Ak ck ((r.tags.length : Int) + 1) w h.lens)
  obtain ⟨hl1, hl2, hl3, hl4⟩ := hs
  have hT := h.t; have hK := h.k
  clear h
  have HK : Hid (plainB r false false false true ((r.tags.length : Int) + 1) = true → r.kids.length = r.tags.length + 1) := fun hp => plainB_kids (k := r.tags.length + 1) (by rw [Int.natCast_add]; exact hp)
  unfold choOk
  generalize plainB r false false false true ((r.tags.length : Int) + 1) = p at *
  unfold vrule vdesc at *
  cases p
  · go_enter Try.func170, Try.ntmps170
    go_wp2_with fail
    refine (CP.out _).mono ?_; rintro _ w1 ⟨rfl, he1⟩
    go_wp2
    go_ret
    exact ⟨ret_bool (by simp), eb.trans he1⟩
  have hlen := HK.out rfl
  have CI := Lib.hid (fun w => iInRange_c (r.tags.length : Int) 1 8 w)
  have HB : Hid (between r.tags.length 1 8 = (decide ((1 : Int) ≤ (r.tags.length : Int)) && decide ((r.tags.length : Int) ≤ 8))) := rfl
  rw [← HB.out] at CI
  have HP : Hid (between r.tags.length 1 8 = true → 0 < r.tags.length) := by intro hq; unfold between at hq; simp only [Bool.and_eq_true, decide_eq_true_eq] at hq; omega
  have HLEN := Lib.hid hlen
  clear HB hlen HK
  generalize between r.tags.length 1 8 = p2 at *
  cases p2
  · go_enter Try.func170, Try.ntmps170
    go_wp2_with fail
    refine (CP.out _).mono ?_; rintro _ w1 ⟨rfl, he1⟩
    go_wp2_with fail
    refine (CI.out _).mono ?_; rintro _ w2 ⟨rfl, he2⟩
    go_wp2
    go_ret
    exact ⟨ret_bool (by simp), eb.trans (he1.trans he2)⟩
  · have hpos := HP.out rfl
    have hk0 : 0 < r.kids.length := by have := HLEN.out; omega
    obtain ⟨bk, ok, rfl, hbk, hck⟩ := hK.at 0 hk0
    have HG : Hid (r.kids.getD 0 0 = r.kids[0]) := by show _ = _; simp [List.getD_eq_getElem?_getD, List.getElem?_eq_getElem hk0]
    rw [HG.out]
    rw [Nat.add_zero] at hck
    generalize r.kids[0] = kid at *
    have CL := Lib.hid (fun w h => iLimit_c A ds c kid w h)
    have HLC := Lib.hid (limD_cases ds kid)
    unfold vdesc at CL
    generalize limD ds kid = lim at *
    have hck' := fun w' (e : Ext _ w') => hck w' (eb.trans e)
    clear hck hK HG
    go_enter Try.func170, Try.ntmps170
    go_wp2_with fail
    refine (CP.out _).mono ?_; rintro _ w1 ⟨rfl, he1⟩
    go_wp2_with fail
    refine (CI.out _).mono ?_; rintro _ w2 ⟨rfl, he2⟩
    have e2 := he1.trans he2
    clear CI CP he1 he2
    go_wp2_with fail
    refine wp_region_quiet_below (by kernel_rfl) (by kernel_rfl) ?_
    repeat (go_big_quiet_step ((go_at_call 168; exact Calls.regrown_of (CL.out _ (hd.ext (eb.trans (by first | assumption | exact Ext_regrown _ _ e2)))))))
    refine wpQuiet_nil ?_
    rintro w3 ⟨⟨nq, osq⟩, hq⟩
    have ew3 := ext_of_q hq
    clear hq nq osq
    have e3 := e2.trans ew3
    clear e2 ew3 CL
    go_wp2
    go_loopw [31] (fun i wr => ∃ k : Nat, k ≤ r.tags.length ∧ i = .int .i64 k ∧ Hid (∀ j, j < k → tagOk lim r.tags j = true) ∧ Ext _ wr) (fun i _ => r.tags.length - (intOf i).toNat)
    case atStart => exact ⟨0, by omega, rfl, (fun j hj => by omega), e3⟩
    case round =>
      clear e3
      obtain ⟨k, hk, rfl, ht, he⟩ := hrel
      by_cases hlt : k < r.tags.length
      · obtain ⟨b, off, rfl, hb, hc⟩ := hT.at k hlt
        have hc' := fun w' (e : Ext _ w') => hc w' (eb.trans e)
        have NO : Hid (tagOk lim r.tags k = false → allN r.tags.length (tagOk lim r.tags) = false) := fun hf => allN_no hlt hf
        have YES : Hid (tagOk lim r.tags k = true → ∀ j, j < k + 1 → tagOk lim r.tags j = true) := upTo ht.out
        have CB := Lib.hid (fun w => iInRange_c r.tags[k] 0 lim w)
        have HB : Hid (between r.tags[k] 0 lim = (decide ((0 : Int) ≤ r.tags[k]) && decide (r.tags[k] ≤ lim))) := rfl
        rw [← HB.out] at CB
        clear HB
        rcases Nat.eq_zero_or_pos k with hz | hpos'
        · have HN := Lib.hid (tagOk_zero (lim := lim) hlt hz)
          have d1 : decide ((0 : Int) < (k : Int)) = false := by simp; omega
          have d2 : decide (0 < k) = false := by simp; omega
          clear hz
          generalize r.tags[k] = x at *
          generalize between x 0 lim = q1 at *
          clear hc hT ht
          cases q1
          · have HE := Lib.hid (NO.out HN.out); clear NO YES HN
            go_wp2_with fail
            refine (CB.out _).mono ?_; rintro _ w4 ⟨rfl, he4⟩
            go_wp2
            go_ret
            exact ⟨ret_bool (by rw [HE.out]; simp), eb.trans (he.trans he4)⟩
          · have HE := Lib.hid (YES.out HN.out); clear NO YES HN
            go_wp2_with fail
            refine (CB.out _).mono ?_; rintro _ w4 ⟨rfl, he4⟩
            go_wp2
            go_roundw
            case rel => exact ⟨k+1, by omega, by go_num, HE.out, he.trans he4⟩
            case measure => simp [intOf]; omega
        · obtain ⟨m, rfl⟩ : ∃ m, k = m + 1 := ⟨k - 1, by omega⟩
          have HN := Lib.hid (tagOk_succ (lim := lim) hlt)
          obtain ⟨b', off', hh, _, hcm⟩ := hT.at m (by omega)
          obtain ⟨rfl, rfl⟩ : b = b' ∧ off = off' := by injection hh with hh; injection hh with h1 h2; exact ⟨h1, h2⟩
          have hcm' := fun w' (e : Ext _ w') => hcm w' (eb.trans e)
          have hwm := wrap_back m (by omega)
          generalize r.tags[m + 1] = x at *
          generalize r.tags[m] = y at *
          generalize between x 0 lim = q1 at *
          clear hc hT ht hcm hh
          cases q1
          · have HE := Lib.hid (NO.out (HN.out.trans (by simp))); clear NO YES HN
            go_wp2_with fail
            refine (CB.out _).mono ?_; rintro _ w4 ⟨rfl, he4⟩
            go_wp2
            go_ret
            exact ⟨ret_bool (by rw [HE.out]; simp), eb.trans (he.trans he4)⟩
          · cases hq : decide (x ≤ y)
            · have HE := Lib.hid (YES.out (HN.out.trans (by rw [hq]; simp))); clear NO YES HN
              go_wp2_with fail
              refine (CB.out _).mono ?_; rintro _ w4 ⟨rfl, he4⟩
              have e4 := he.trans he4
              go_wp2
              go_roundw
              case rel => exact ⟨m+2, by omega, by go_num, HE.out, e4⟩
              case measure => simp [intOf]; omega
            · have HE := Lib.hid (NO.out (HN.out.trans (by rw [hq]; simp))); clear NO YES HN
              go_wp2_with fail
              refine (CB.out _).mono ?_; rintro _ w4 ⟨rfl, he4⟩
              have e4 := he.trans he4
              go_wp2
              go_ret
              exact ⟨ret_bool (by rw [HE.out]; simp), eb.trans e4⟩
      · have HE : Hid (allN r.tags.length (tagOk lim r.tags) = true) := allN_yes (fun j hj => ht.out j (by omega))
        have HL0 := Lib.hid (lim_pos HLC.out hpos (fun j hj => ht.out j (by omega)))
        have hl0 := HL0.out
        go_wp2
        go_ret
        exact ⟨ret_bool (by rw [HE.out]; simp), eb.trans he⟩
end Go.Proofs.Ytlaejcacembjiaa

/- Kinds of rules, of the program. -/
namespace Go.Proofs.Ytlaejcacembjiaa
open Go.RowKit Go.Sort

set_option maxRecDepth 100000 in
set_option maxHeartbeats 4000000 in
theorem iKind1_c (A : Option Addr) (ds : List DRule) (c : Nat) (r : DRule) (Ab : Option Addr) (cb : Nat) (An : Option Addr) (cn : Nat) (At : Option Addr) (ct : Nat) (Ak : Option Addr) (ck : Nat) (w : World) (hd : RdD w A ds c) (h : RdS w r Ab cb An cn At ct Ak ck) (hs : ShortR r) (hw : WfR r) (hk : r.kind = 1) :
    Gives Try.prog 150 #[vdesc (.slice A ds.length c), vrule r (.slice Ab r.bytes.length cb) (.slice An r.names.length cn) (.slice At r.tags.length ct) (.slice Ak r.kids.length ck)] w (.bool (kindOk ds r)) := by
  have eb := Ext_alloc (.cells #[.string r.nm, .int .i64 r.kind, .int .i64 r.size, .bool r.little, .slice Ab r.bytes.length cb, .slice An r.names.length cn, .slice At r.tags.length ct, .slice Ak r.kids.length ck] 76) (Ext_alloc (.cells #[.slice A ds.length c] 38) (Ext.refl w))
  have BX := fun w' (e : Ext ((w.alloc (.cells #[.slice A ds.length c] 38)).alloc (.cells #[.string r.nm, .int .i64 r.kind, .int .i64 r.size, .bool r.little, .slice Ab r.bytes.length cb, .slice An r.names.length cn, .slice At r.tags.length ct, .slice Ak r.kids.length ck] 76)) w') => boxed2 e
  have B0 := fun w' e => (BX w' e).1
  have B1 := fun w' e => (BX w' e).2.1
  clear BX
  have t1 : (r.kind == 1) = true := by rw [hk]; rfl
  have t2 : (r.kind == 2) = false := by rw [hk]; rfl
  have t3 : (r.kind == 3) = false := by rw [hk]; rfl
  have t4 : (r.kind == 4) = false := by rw [hk]; rfl
  have t5 : (r.kind == 5) = false := by rw [hk]; rfl
  have t6 : (r.kind == 6) = false := by rw [hk]; rfl
  have t7 : (r.kind == 7) = false := by rw [hk]; rfl
  have t8 : (r.kind == 8) = false := by rw [hk]; rfl
  have t9 : (r.kind == 9) = false := by rw [hk]; rfl
  have t10 : (r.kind == 10) = false := by rw [hk]; rfl
  have HV : Hid ((kindOk ds r) = (plainB r true false false false 0 && (between r.size 1 4 && (!r.little || decide (1 < r.size))))) := by show _ = _; simp [kindOk, hk, Bool.and_assoc]
  rw [HV.out]
  have CP := Lib.hid (fun w => iPlain1000_c r Ab cb An cn At ct Ak ck 0 w h.lens)
  generalize (plainB r true false false false 0) = p at *
  clear HV hk
  have CI := Lib.hid (fun w => iInRange_c r.size 1 4 w)
  have HB : Hid (between r.size 1 4 = (decide (((1) : Int) ≤ r.size) && decide (r.size ≤ 4))) := rfl
  rw [← HB.out] at CI
  clear HB
  generalize between r.size 1 4 = q at *
  unfold vrule vdesc at *
  cases p
  · go_enter Try.func150, Try.ntmps150
    go_wp2_with fail
    refine (CP.out _).mono ?_; rintro _ w1 ⟨rfl, he1⟩
    go_wp2
    go_ret
    exact ⟨ret_bool (by simp), eb.trans he1⟩
  cases q
  · go_enter Try.func150, Try.ntmps150
    go_wp2_with fail
    refine (CP.out _).mono ?_; rintro _ w1 ⟨rfl, he1⟩
    go_wp2_with fail
    refine (CI.out _).mono ?_; rintro _ w2 ⟨rfl, he2⟩
    go_wp2
    go_ret
    exact ⟨ret_bool (by simp), eb.trans (he1.trans he2)⟩
  generalize r.little = li at *
  cases li
  all_goals
    cases hz : decide (1 < r.size)
    all_goals
      go_enter Try.func150, Try.ntmps150
      go_wp2_with fail
      refine (CP.out _).mono ?_; rintro _ w1 ⟨rfl, he1⟩
      go_wp2_with fail
      refine (CI.out _).mono ?_; rintro _ w2 ⟨rfl, he2⟩
      have e2 := he1.trans he2
      go_wp2
      go_ret
      exact ⟨ret_bool (by simp), eb.trans e2⟩
set_option maxRecDepth 100000 in
set_option maxHeartbeats 4000000 in
theorem iKind2_c (A : Option Addr) (ds : List DRule) (c : Nat) (r : DRule) (Ab : Option Addr) (cb : Nat) (An : Option Addr) (cn : Nat) (At : Option Addr) (ct : Nat) (Ak : Option Addr) (ck : Nat) (w : World) (hd : RdD w A ds c) (h : RdS w r Ab cb An cn At ct Ak ck) (hs : ShortR r) (hw : WfR r) (hk : r.kind = 2) :
    Gives Try.prog 150 #[vdesc (.slice A ds.length c), vrule r (.slice Ab r.bytes.length cb) (.slice An r.names.length cn) (.slice At r.tags.length ct) (.slice Ak r.kids.length ck)] w (.bool (kindOk ds r)) := by
  have eb := Ext_alloc (.cells #[.string r.nm, .int .i64 r.kind, .int .i64 r.size, .bool r.little, .slice Ab r.bytes.length cb, .slice An r.names.length cn, .slice At r.tags.length ct, .slice Ak r.kids.length ck] 76) (Ext_alloc (.cells #[.slice A ds.length c] 38) (Ext.refl w))
  have BX := fun w' (e : Ext ((w.alloc (.cells #[.slice A ds.length c] 38)).alloc (.cells #[.string r.nm, .int .i64 r.kind, .int .i64 r.size, .bool r.little, .slice Ab r.bytes.length cb, .slice An r.names.length cn, .slice At r.tags.length ct, .slice Ak r.kids.length ck] 76)) w') => boxed2 e
  have B0 := fun w' e => (BX w' e).1
  have B1 := fun w' e => (BX w' e).2.1
  clear BX
  have t1 : (r.kind == 1) = false := by rw [hk]; rfl
  have t2 : (r.kind == 2) = true := by rw [hk]; rfl
  have t3 : (r.kind == 3) = false := by rw [hk]; rfl
  have t4 : (r.kind == 4) = false := by rw [hk]; rfl
  have t5 : (r.kind == 5) = false := by rw [hk]; rfl
  have t6 : (r.kind == 6) = false := by rw [hk]; rfl
  have t7 : (r.kind == 7) = false := by rw [hk]; rfl
  have t8 : (r.kind == 8) = false := by rw [hk]; rfl
  have t9 : (r.kind == 9) = false := by rw [hk]; rfl
  have t10 : (r.kind == 10) = false := by rw [hk]; rfl
  have HV : Hid ((kindOk ds r) = (plainB r false true false false 0 && (between r.bytes.length 1 16))) := by show _ = _; simp [kindOk, hk, Bool.and_assoc]
  rw [HV.out]
  have CP := Lib.hid (fun w => iPlain0100_c r Ab cb An cn At ct Ak ck 0 w h.lens)
  generalize (plainB r false true false false 0) = p at *
  clear HV hk
  have CI := Lib.hid (fun w => iInRange_c (r.bytes.length : Int) 1 16 w)
  have HB : Hid (between r.bytes.length 1 16 = (decide (((1) : Int) ≤ (r.bytes.length : Int)) && decide ((r.bytes.length : Int) ≤ 16))) := rfl
  rw [← HB.out] at CI
  clear HB
  generalize between r.bytes.length 1 16 = q at *
  have hlb := h.lens.1
  unfold vrule vdesc at *
  cases p
  · go_enter Try.func150, Try.ntmps150
    go_wp2_with fail
    refine (CP.out _).mono ?_; rintro _ w1 ⟨rfl, he1⟩
    go_wp2
    go_ret
    exact ⟨ret_bool (by simp), eb.trans he1⟩
  go_enter Try.func150, Try.ntmps150
  go_wp2_with fail
  refine (CP.out _).mono ?_; rintro _ w1 ⟨rfl, he1⟩
  go_wp2_with fail
  refine (CI.out _).mono ?_; rintro _ w2 ⟨rfl, he2⟩
  go_wp2
  go_ret
  exact ⟨ret_bool (by simp), eb.trans (he1.trans he2)⟩
set_option maxRecDepth 100000 in
set_option maxHeartbeats 4000000 in
theorem iKind3_c (A : Option Addr) (ds : List DRule) (c : Nat) (r : DRule) (Ab : Option Addr) (cb : Nat) (An : Option Addr) (cn : Nat) (At : Option Addr) (ct : Nat) (Ak : Option Addr) (ck : Nat) (w : World) (hd : RdD w A ds c) (h : RdS w r Ab cb An cn At ct Ak ck) (hs : ShortR r) (hw : WfR r) (hk : r.kind = 3) :
    Gives Try.prog 150 #[vdesc (.slice A ds.length c), vrule r (.slice Ab r.bytes.length cb) (.slice An r.names.length cn) (.slice At r.tags.length ct) (.slice Ak r.kids.length ck)] w (.bool (kindOk ds r)) := by
  have eb := Ext_alloc (.cells #[.string r.nm, .int .i64 r.kind, .int .i64 r.size, .bool r.little, .slice Ab r.bytes.length cb, .slice An r.names.length cn, .slice At r.tags.length ct, .slice Ak r.kids.length ck] 76) (Ext_alloc (.cells #[.slice A ds.length c] 38) (Ext.refl w))
  have BX := fun w' (e : Ext ((w.alloc (.cells #[.slice A ds.length c] 38)).alloc (.cells #[.string r.nm, .int .i64 r.kind, .int .i64 r.size, .bool r.little, .slice Ab r.bytes.length cb, .slice An r.names.length cn, .slice At r.tags.length ct, .slice Ak r.kids.length ck] 76)) w') => boxed2 e
  have B0 := fun w' e => (BX w' e).1
  have B1 := fun w' e => (BX w' e).2.1
  clear BX
  have t1 : (r.kind == 1) = false := by rw [hk]; rfl
  have t2 : (r.kind == 2) = false := by rw [hk]; rfl
  have t3 : (r.kind == 3) = true := by rw [hk]; rfl
  have t4 : (r.kind == 4) = false := by rw [hk]; rfl
  have t5 : (r.kind == 5) = false := by rw [hk]; rfl
  have t6 : (r.kind == 6) = false := by rw [hk]; rfl
  have t7 : (r.kind == 7) = false := by rw [hk]; rfl
  have t8 : (r.kind == 8) = false := by rw [hk]; rfl
  have t9 : (r.kind == 9) = false := by rw [hk]; rfl
  have t10 : (r.kind == 10) = false := by rw [hk]; rfl
  have HV : Hid ((kindOk ds r) = (plainB r true false false false 0 && (between r.size 1 64))) := by show _ = _; simp [kindOk, hk, Bool.and_assoc]
  rw [HV.out]
  have CP := Lib.hid (fun w => iPlain1000_c r Ab cb An cn At ct Ak ck 0 w h.lens)
  generalize (plainB r true false false false 0) = p at *
  clear HV hk
  have CI := Lib.hid (fun w => iInRange_c r.size 1 64 w)
  have HB : Hid (between r.size 1 64 = (decide (((1) : Int) ≤ r.size) && decide (r.size ≤ 64))) := rfl
  rw [← HB.out] at CI
  clear HB
  generalize between r.size 1 64 = q at *
  have hlb := h.lens.1
  unfold vrule vdesc at *
  cases p
  · go_enter Try.func150, Try.ntmps150
    go_wp2_with fail
    refine (CP.out _).mono ?_; rintro _ w1 ⟨rfl, he1⟩
    go_wp2
    go_ret
    exact ⟨ret_bool (by simp), eb.trans he1⟩
  go_enter Try.func150, Try.ntmps150
  go_wp2_with fail
  refine (CP.out _).mono ?_; rintro _ w1 ⟨rfl, he1⟩
  go_wp2_with fail
  refine (CI.out _).mono ?_; rintro _ w2 ⟨rfl, he2⟩
  go_wp2
  go_ret
  exact ⟨ret_bool (by simp), eb.trans (he1.trans he2)⟩
set_option maxRecDepth 100000 in
set_option maxHeartbeats 4000000 in
theorem iKind4_c (A : Option Addr) (ds : List DRule) (c : Nat) (r : DRule) (Ab : Option Addr) (cb : Nat) (An : Option Addr) (cn : Nat) (At : Option Addr) (ct : Nat) (Ak : Option Addr) (ck : Nat) (w : World) (hd : RdD w A ds c) (h : RdS w r Ab cb An cn At ct Ak ck) (hs : ShortR r) (hw : WfR r) (hk : r.kind = 4) :
    Gives Try.prog 150 #[vdesc (.slice A ds.length c), vrule r (.slice Ab r.bytes.length cb) (.slice An r.names.length cn) (.slice At r.tags.length ct) (.slice Ak r.kids.length ck)] w (.bool (kindOk ds r)) := by
  have eb := Ext_alloc (.cells #[.string r.nm, .int .i64 r.kind, .int .i64 r.size, .bool r.little, .slice Ab r.bytes.length cb, .slice An r.names.length cn, .slice At r.tags.length ct, .slice Ak r.kids.length ck] 76) (Ext_alloc (.cells #[.slice A ds.length c] 38) (Ext.refl w))
  have BX := fun w' (e : Ext ((w.alloc (.cells #[.slice A ds.length c] 38)).alloc (.cells #[.string r.nm, .int .i64 r.kind, .int .i64 r.size, .bool r.little, .slice Ab r.bytes.length cb, .slice An r.names.length cn, .slice At r.tags.length ct, .slice Ak r.kids.length ck] 76)) w') => boxed2 e
  have B0 := fun w' e => (BX w' e).1
  have B1 := fun w' e => (BX w' e).2.1
  clear BX
  have t1 : (r.kind == 1) = false := by rw [hk]; rfl
  have t2 : (r.kind == 2) = false := by rw [hk]; rfl
  have t3 : (r.kind == 3) = false := by rw [hk]; rfl
  have t4 : (r.kind == 4) = true := by rw [hk]; rfl
  have t5 : (r.kind == 5) = false := by rw [hk]; rfl
  have t6 : (r.kind == 6) = false := by rw [hk]; rfl
  have t7 : (r.kind == 7) = false := by rw [hk]; rfl
  have t8 : (r.kind == 8) = false := by rw [hk]; rfl
  have t9 : (r.kind == 9) = false := by rw [hk]; rfl
  have t10 : (r.kind == 10) = false := by rw [hk]; rfl
  have HV : Hid ((kindOk ds r) = (plainB r false false false false 1 && (decide (0 < limD ds (r.kids.getD 0 0))))) := by show _ = _; simp [kindOk, hk, Bool.and_assoc]
  rw [HV.out]
  have CP := Lib.hid (fun w => iPlain0000_c r Ab cb An cn At ct Ak ck 1 w h.lens)
  have HKL : Hid (plainB r false false false false 1 = true → r.kids.length = 1) := plainB_kids (k := 1)
  have HPP : Hid ((plainB r false false false false 1) = true → plainB r false false false false 1 = true) := fun hq => hq
  have HKK := Lib.hid (fun hq => HKL.out (HPP.out hq)); clear HKL HPP
  generalize (plainB r false false false false 1) = p at *
  clear HV hk
  have h1 := h.k
  unfold vrule vdesc at *
  cases p
  · go_enter Try.func150, Try.ntmps150
    go_wp2_with fail
    refine wp_region_quiet_below (by kernel_rfl) (by kernel_rfl) ?_
    repeat (go_big_quiet_step ((go_at_call 167; exact Calls.regrown_of (CP.out _))))
    refine wpQuiet_nil ?_
    rintro w1 ⟨⟨nq, osq⟩, hq⟩
    have ew1 := ext_of_q hq
    clear hq nq osq
    go_wp2
    go_ret
    exact ⟨ret_bool (by simp), eb.trans ew1⟩
  have hk0 : 0 < r.kids.length := by have := HKK.out rfl; omega
  obtain ⟨bk, ok, rfl, hbk, hck⟩ := h1.at 0 hk0
  have HG : Hid (r.kids.getD 0 0 = r.kids[0]) := by show _ = _; simp [List.getD_eq_getElem?_getD, List.getElem?_eq_getElem hk0]
  rw [HG.out]
  rw [Nat.add_zero] at hck
  generalize r.kids[0] = kid at *
  have CL := Lib.hid (fun w h => iLimit_c A ds c kid w h)
  unfold vdesc at CL
  generalize limD ds kid = lim at *
  have hck' := fun w' (e : Ext _ w') => hck w' (eb.trans e)
  clear hck h1 h HG HKK
  have hbe := Ext_drew (Ext.refl ((w.alloc (.cells #[.slice A ds.length c] 38)).alloc (.cells #[.string r.nm, .int .i64 r.kind, .int .i64 r.size, .bool r.little, .slice Ab r.bytes.length cb, .slice An r.names.length cn, .slice At r.tags.length ct, .slice (some ⟨bk, ok, none⟩) r.kids.length ck] 76)))
  go_enter Try.func150, Try.ntmps150
  go_wp2_with fail
  refine wp_region_quiet_below (by kernel_rfl) (by kernel_rfl) ?_
  repeat (go_big_quiet_step ((first | (go_at_call 167; exact Calls.regrown_of (CP.out _)) | (go_at_call 168; exact Calls.regrown_of (CL.out _ (hd.ext (eb.trans (by first | assumption | exact Ext_self _ | exact Ext_drew (Ext_self _) | exact Ext_regrown _ _ (Ext_self _)))))))))
  refine wpQuiet_nil ?_
  rintro w1 ⟨⟨nq, osq⟩, hq⟩
  have ew1 := ext_of_q hq
  clear hq nq osq
  go_wp2
  go_ret
  exact ⟨ret_bool (by simp), eb.trans ew1⟩
set_option maxRecDepth 100000 in
set_option maxHeartbeats 4000000 in
theorem iKind5_c (A : Option Addr) (ds : List DRule) (c : Nat) (r : DRule) (Ab : Option Addr) (cb : Nat) (An : Option Addr) (cn : Nat) (At : Option Addr) (ct : Nat) (Ak : Option Addr) (ck : Nat) (w : World) (hd : RdD w A ds c) (h : RdS w r Ab cb An cn At ct Ak ck) (hs : ShortR r) (hw : WfR r) (hk : r.kind = 5) :
    Gives Try.prog 150 #[vdesc (.slice A ds.length c), vrule r (.slice Ab r.bytes.length cb) (.slice An r.names.length cn) (.slice At r.tags.length ct) (.slice Ak r.kids.length ck)] w (.bool (kindOk ds r)) := by
  have eb := Ext_alloc (.cells #[.string r.nm, .int .i64 r.kind, .int .i64 r.size, .bool r.little, .slice Ab r.bytes.length cb, .slice An r.names.length cn, .slice At r.tags.length ct, .slice Ak r.kids.length ck] 76) (Ext_alloc (.cells #[.slice A ds.length c] 38) (Ext.refl w))
  have BX := fun w' (e : Ext ((w.alloc (.cells #[.slice A ds.length c] 38)).alloc (.cells #[.string r.nm, .int .i64 r.kind, .int .i64 r.size, .bool r.little, .slice Ab r.bytes.length cb, .slice An r.names.length cn, .slice At r.tags.length ct, .slice Ak r.kids.length ck] 76)) w') => boxed2 e
  have B0 := fun w' e => (BX w' e).1
  have B1 := fun w' e => (BX w' e).2.1
  clear BX
  have t1 : (r.kind == 1) = false := by rw [hk]; rfl
  have t2 : (r.kind == 2) = false := by rw [hk]; rfl
  have t3 : (r.kind == 3) = false := by rw [hk]; rfl
  have t4 : (r.kind == 4) = false := by rw [hk]; rfl
  have t5 : (r.kind == 5) = true := by rw [hk]; rfl
  have t6 : (r.kind == 6) = false := by rw [hk]; rfl
  have t7 : (r.kind == 7) = false := by rw [hk]; rfl
  have t8 : (r.kind == 8) = false := by rw [hk]; rfl
  have t9 : (r.kind == 9) = false := by rw [hk]; rfl
  have t10 : (r.kind == 10) = false := by rw [hk]; rfl
  have HV : Hid ((kindOk ds r) = (plainB r false false false false 2 && (decide (0 < limD ds (r.kids.getD 0 0))))) := by show _ = _; simp [kindOk, hk, Bool.and_assoc]
  rw [HV.out]
  have CP := Lib.hid (fun w => iPlain0000_c r Ab cb An cn At ct Ak ck 2 w h.lens)
  have HKL : Hid (plainB r false false false false 2 = true → r.kids.length = 2) := plainB_kids (k := 2)
  have HPP : Hid ((plainB r false false false false 2) = true → plainB r false false false false 2 = true) := fun hq => hq
  have HKK := Lib.hid (fun hq => HKL.out (HPP.out hq)); clear HKL HPP
  generalize (plainB r false false false false 2) = p at *
  clear HV hk
  have h1 := h.k
  unfold vrule vdesc at *
  cases p
  · go_enter Try.func150, Try.ntmps150
    go_wp2_with fail
    refine wp_region_quiet_below (by kernel_rfl) (by kernel_rfl) ?_
    repeat (go_big_quiet_step ((go_at_call 167; exact Calls.regrown_of (CP.out _))))
    refine wpQuiet_nil ?_
    rintro w1 ⟨⟨nq, osq⟩, hq⟩
    have ew1 := ext_of_q hq
    clear hq nq osq
    go_wp2
    go_ret
    exact ⟨ret_bool (by simp), eb.trans ew1⟩
  have hk0 : 0 < r.kids.length := by have := HKK.out rfl; omega
  obtain ⟨bk, ok, rfl, hbk, hck⟩ := h1.at 0 hk0
  have HG : Hid (r.kids.getD 0 0 = r.kids[0]) := by show _ = _; simp [List.getD_eq_getElem?_getD, List.getElem?_eq_getElem hk0]
  rw [HG.out]
  rw [Nat.add_zero] at hck
  generalize r.kids[0] = kid at *
  have CL := Lib.hid (fun w h => iLimit_c A ds c kid w h)
  unfold vdesc at CL
  generalize limD ds kid = lim at *
  have hck' := fun w' (e : Ext _ w') => hck w' (eb.trans e)
  clear hck h1 h HG HKK
  have hbe := Ext_drew (Ext.refl ((w.alloc (.cells #[.slice A ds.length c] 38)).alloc (.cells #[.string r.nm, .int .i64 r.kind, .int .i64 r.size, .bool r.little, .slice Ab r.bytes.length cb, .slice An r.names.length cn, .slice At r.tags.length ct, .slice (some ⟨bk, ok, none⟩) r.kids.length ck] 76)))
  go_enter Try.func150, Try.ntmps150
  go_wp2_with fail
  refine wp_region_quiet_below (by kernel_rfl) (by kernel_rfl) ?_
  repeat (go_big_quiet_step ((first | (go_at_call 167; exact Calls.regrown_of (CP.out _)) | (go_at_call 168; exact Calls.regrown_of (CL.out _ (hd.ext (eb.trans (by first | assumption | exact Ext_self _ | exact Ext_drew (Ext_self _) | exact Ext_regrown _ _ (Ext_self _)))))))))
  refine wpQuiet_nil ?_
  rintro w1 ⟨⟨nq, osq⟩, hq⟩
  have ew1 := ext_of_q hq
  clear hq nq osq
  go_wp2
  go_ret
  exact ⟨ret_bool (by simp), eb.trans ew1⟩
set_option maxRecDepth 100000 in
set_option maxHeartbeats 4000000 in
theorem iKind6_c (A : Option Addr) (ds : List DRule) (c : Nat) (r : DRule) (Ab : Option Addr) (cb : Nat) (An : Option Addr) (cn : Nat) (At : Option Addr) (ct : Nat) (Ak : Option Addr) (ck : Nat) (w : World) (hd : RdD w A ds c) (h : RdS w r Ab cb An cn At ct Ak ck) (hs : ShortR r) (hw : WfR r) (hk : r.kind = 6) :
    Gives Try.prog 150 #[vdesc (.slice A ds.length c), vrule r (.slice Ab r.bytes.length cb) (.slice An r.names.length cn) (.slice At r.tags.length ct) (.slice Ak r.kids.length ck)] w (.bool (kindOk ds r)) := by
  have eb := Ext_alloc (.cells #[.string r.nm, .int .i64 r.kind, .int .i64 r.size, .bool r.little, .slice Ab r.bytes.length cb, .slice An r.names.length cn, .slice At r.tags.length ct, .slice Ak r.kids.length ck] 76) (Ext_alloc (.cells #[.slice A ds.length c] 38) (Ext.refl w))
  have BX := fun w' (e : Ext ((w.alloc (.cells #[.slice A ds.length c] 38)).alloc (.cells #[.string r.nm, .int .i64 r.kind, .int .i64 r.size, .bool r.little, .slice Ab r.bytes.length cb, .slice An r.names.length cn, .slice At r.tags.length ct, .slice Ak r.kids.length ck] 76)) w') => boxed2 e
  have B0 := fun w' e => (BX w' e).1
  have B1 := fun w' e => (BX w' e).2.1
  clear BX
  have t1 : (r.kind == 1) = false := by rw [hk]; rfl
  have t2 : (r.kind == 2) = false := by rw [hk]; rfl
  have t3 : (r.kind == 3) = false := by rw [hk]; rfl
  have t4 : (r.kind == 4) = false := by rw [hk]; rfl
  have t5 : (r.kind == 5) = false := by rw [hk]; rfl
  have t6 : (r.kind == 6) = true := by rw [hk]; rfl
  have t7 : (r.kind == 7) = false := by rw [hk]; rfl
  have t8 : (r.kind == 8) = false := by rw [hk]; rfl
  have t9 : (r.kind == 9) = false := by rw [hk]; rfl
  have t10 : (r.kind == 10) = false := by rw [hk]; rfl
  have HV : Hid (kindOk ds r = seqOk r) := by show _ = _; simp [kindOk, hk]
  rw [HV.out]
  have C := Lib.hid (fun w h => iSeq_c r Ab cb An cn At ct Ak ck w h hw)
  generalize seqOk r = q at *
  clear HV hk
  unfold vrule vdesc at *
  go_enter Try.func150, Try.ntmps150
  go_wp2_with fail
  refine (C.out _ (h.ext eb)).mono ?_; rintro _ w1 ⟨rfl, he1⟩
  go_wp2
  go_ret
  exact ⟨rfl, eb.trans he1⟩
set_option maxRecDepth 100000 in
set_option maxHeartbeats 4000000 in
theorem iKind7_c (A : Option Addr) (ds : List DRule) (c : Nat) (r : DRule) (Ab : Option Addr) (cb : Nat) (An : Option Addr) (cn : Nat) (At : Option Addr) (ct : Nat) (Ak : Option Addr) (ck : Nat) (w : World) (hd : RdD w A ds c) (h : RdS w r Ab cb An cn At ct Ak ck) (hs : ShortR r) (hw : WfR r) (hk : r.kind = 7) :
    Gives Try.prog 150 #[vdesc (.slice A ds.length c), vrule r (.slice Ab r.bytes.length cb) (.slice An r.names.length cn) (.slice At r.tags.length ct) (.slice Ak r.kids.length ck)] w (.bool (kindOk ds r)) := by
  have eb := Ext_alloc (.cells #[.string r.nm, .int .i64 r.kind, .int .i64 r.size, .bool r.little, .slice Ab r.bytes.length cb, .slice An r.names.length cn, .slice At r.tags.length ct, .slice Ak r.kids.length ck] 76) (Ext_alloc (.cells #[.slice A ds.length c] 38) (Ext.refl w))
  have BX := fun w' (e : Ext ((w.alloc (.cells #[.slice A ds.length c] 38)).alloc (.cells #[.string r.nm, .int .i64 r.kind, .int .i64 r.size, .bool r.little, .slice Ab r.bytes.length cb, .slice An r.names.length cn, .slice At r.tags.length ct, .slice Ak r.kids.length ck] 76)) w') => boxed2 e
  have B0 := fun w' e => (BX w' e).1
  have B1 := fun w' e => (BX w' e).2.1
  clear BX
  have t1 : (r.kind == 1) = false := by rw [hk]; rfl
  have t2 : (r.kind == 2) = false := by rw [hk]; rfl
  have t3 : (r.kind == 3) = false := by rw [hk]; rfl
  have t4 : (r.kind == 4) = false := by rw [hk]; rfl
  have t5 : (r.kind == 5) = false := by rw [hk]; rfl
  have t6 : (r.kind == 6) = false := by rw [hk]; rfl
  have t7 : (r.kind == 7) = true := by rw [hk]; rfl
  have t8 : (r.kind == 8) = false := by rw [hk]; rfl
  have t9 : (r.kind == 9) = false := by rw [hk]; rfl
  have t10 : (r.kind == 10) = false := by rw [hk]; rfl
  have HV : Hid (kindOk ds r = choOk ds r) := by show _ = _; simp [kindOk, hk]
  rw [HV.out]
  have C := Lib.hid (fun w hd h => iChoice_c A ds c r Ab cb An cn At ct Ak ck w hd h hs)
  generalize choOk ds r = q at *
  clear HV hk
  unfold vrule vdesc at *
  go_enter Try.func150, Try.ntmps150
  go_wp2_with fail
  refine (C.out _ (hd.ext eb) (h.ext eb)).mono ?_; rintro _ w1 ⟨rfl, he1⟩
  go_wp2
  go_ret
  exact ⟨rfl, eb.trans he1⟩
set_option maxRecDepth 100000 in
set_option maxHeartbeats 4000000 in
theorem iKind8_c (A : Option Addr) (ds : List DRule) (c : Nat) (r : DRule) (Ab : Option Addr) (cb : Nat) (An : Option Addr) (cn : Nat) (At : Option Addr) (ct : Nat) (Ak : Option Addr) (ck : Nat) (w : World) (hd : RdD w A ds c) (h : RdS w r Ab cb An cn At ct Ak ck) (hs : ShortR r) (hw : WfR r) (hk : r.kind = 8) :
    Gives Try.prog 150 #[vdesc (.slice A ds.length c), vrule r (.slice Ab r.bytes.length cb) (.slice An r.names.length cn) (.slice At r.tags.length ct) (.slice Ak r.kids.length ck)] w (.bool (kindOk ds r)) := by
  have eb := Ext_alloc (.cells #[.string r.nm, .int .i64 r.kind, .int .i64 r.size, .bool r.little, .slice Ab r.bytes.length cb, .slice An r.names.length cn, .slice At r.tags.length ct, .slice Ak r.kids.length ck] 76) (Ext_alloc (.cells #[.slice A ds.length c] 38) (Ext.refl w))
  have BX := fun w' (e : Ext ((w.alloc (.cells #[.slice A ds.length c] 38)).alloc (.cells #[.string r.nm, .int .i64 r.kind, .int .i64 r.size, .bool r.little, .slice Ab r.bytes.length cb, .slice An r.names.length cn, .slice At r.tags.length ct, .slice Ak r.kids.length ck] 76)) w') => boxed2 e
  have B0 := fun w' e => (BX w' e).1
  have B1 := fun w' e => (BX w' e).2.1
  clear BX
  have t1 : (r.kind == 1) = false := by rw [hk]; rfl
  have t2 : (r.kind == 2) = false := by rw [hk]; rfl
  have t3 : (r.kind == 3) = false := by rw [hk]; rfl
  have t4 : (r.kind == 4) = false := by rw [hk]; rfl
  have t5 : (r.kind == 5) = false := by rw [hk]; rfl
  have t6 : (r.kind == 6) = false := by rw [hk]; rfl
  have t7 : (r.kind == 7) = false := by rw [hk]; rfl
  have t8 : (r.kind == 8) = true := by rw [hk]; rfl
  have t9 : (r.kind == 9) = false := by rw [hk]; rfl
  have t10 : (r.kind == 10) = false := by rw [hk]; rfl
  have HV : Hid ((kindOk ds r) = (plainB r false false false false 1)) := by show _ = _; simp [kindOk, hk]
  rw [HV.out]
  have CP := Lib.hid (fun w => iPlain0000_c r Ab cb An cn At ct Ak ck 1 w h.lens)
  generalize (plainB r false false false false 1) = p at *
  clear HV hk
  unfold vrule vdesc at *
  go_enter Try.func150, Try.ntmps150
  go_wp2_with fail
  refine (CP.out _).mono ?_; rintro _ w1 ⟨rfl, he1⟩
  go_wp2
  go_ret
  exact ⟨rfl, eb.trans he1⟩
set_option maxRecDepth 100000 in
set_option maxHeartbeats 4000000 in
theorem iKind9_c (A : Option Addr) (ds : List DRule) (c : Nat) (r : DRule) (Ab : Option Addr) (cb : Nat) (An : Option Addr) (cn : Nat) (At : Option Addr) (ct : Nat) (Ak : Option Addr) (ck : Nat) (w : World) (hd : RdD w A ds c) (h : RdS w r Ab cb An cn At ct Ak ck) (hs : ShortR r) (hw : WfR r) (hk : r.kind = 9) :
    Gives Try.prog 150 #[vdesc (.slice A ds.length c), vrule r (.slice Ab r.bytes.length cb) (.slice An r.names.length cn) (.slice At r.tags.length ct) (.slice Ak r.kids.length ck)] w (.bool (kindOk ds r)) := by
  have eb := Ext_alloc (.cells #[.string r.nm, .int .i64 r.kind, .int .i64 r.size, .bool r.little, .slice Ab r.bytes.length cb, .slice An r.names.length cn, .slice At r.tags.length ct, .slice Ak r.kids.length ck] 76) (Ext_alloc (.cells #[.slice A ds.length c] 38) (Ext.refl w))
  have BX := fun w' (e : Ext ((w.alloc (.cells #[.slice A ds.length c] 38)).alloc (.cells #[.string r.nm, .int .i64 r.kind, .int .i64 r.size, .bool r.little, .slice Ab r.bytes.length cb, .slice An r.names.length cn, .slice At r.tags.length ct, .slice Ak r.kids.length ck] 76)) w') => boxed2 e
  have B0 := fun w' e => (BX w' e).1
  have B1 := fun w' e => (BX w' e).2.1
  clear BX
  have t1 : (r.kind == 1) = false := by rw [hk]; rfl
  have t2 : (r.kind == 2) = false := by rw [hk]; rfl
  have t3 : (r.kind == 3) = false := by rw [hk]; rfl
  have t4 : (r.kind == 4) = false := by rw [hk]; rfl
  have t5 : (r.kind == 5) = false := by rw [hk]; rfl
  have t6 : (r.kind == 6) = false := by rw [hk]; rfl
  have t7 : (r.kind == 7) = false := by rw [hk]; rfl
  have t8 : (r.kind == 8) = false := by rw [hk]; rfl
  have t9 : (r.kind == 9) = true := by rw [hk]; rfl
  have t10 : (r.kind == 10) = false := by rw [hk]; rfl
  have HV : Hid ((kindOk ds r) = (plainB r false false false false 1)) := by show _ = _; simp [kindOk, hk]
  rw [HV.out]
  have CP := Lib.hid (fun w => iPlain0000_c r Ab cb An cn At ct Ak ck 1 w h.lens)
  generalize (plainB r false false false false 1) = p at *
  clear HV hk
  unfold vrule vdesc at *
  go_enter Try.func150, Try.ntmps150
  go_wp2_with fail
  refine (CP.out _).mono ?_; rintro _ w1 ⟨rfl, he1⟩
  go_wp2
  go_ret
  exact ⟨rfl, eb.trans he1⟩
set_option maxRecDepth 100000 in
set_option maxHeartbeats 4000000 in
theorem iKind10_c (A : Option Addr) (ds : List DRule) (c : Nat) (r : DRule) (Ab : Option Addr) (cb : Nat) (An : Option Addr) (cn : Nat) (At : Option Addr) (ct : Nat) (Ak : Option Addr) (ck : Nat) (w : World) (hd : RdD w A ds c) (h : RdS w r Ab cb An cn At ct Ak ck) (hs : ShortR r) (hw : WfR r) (hk : r.kind = 10) :
    Gives Try.prog 150 #[vdesc (.slice A ds.length c), vrule r (.slice Ab r.bytes.length cb) (.slice An r.names.length cn) (.slice At r.tags.length ct) (.slice Ak r.kids.length ck)] w (.bool (kindOk ds r)) := by
  have eb := Ext_alloc (.cells #[.string r.nm, .int .i64 r.kind, .int .i64 r.size, .bool r.little, .slice Ab r.bytes.length cb, .slice An r.names.length cn, .slice At r.tags.length ct, .slice Ak r.kids.length ck] 76) (Ext_alloc (.cells #[.slice A ds.length c] 38) (Ext.refl w))
  have BX := fun w' (e : Ext ((w.alloc (.cells #[.slice A ds.length c] 38)).alloc (.cells #[.string r.nm, .int .i64 r.kind, .int .i64 r.size, .bool r.little, .slice Ab r.bytes.length cb, .slice An r.names.length cn, .slice At r.tags.length ct, .slice Ak r.kids.length ck] 76)) w') => boxed2 e
  have B0 := fun w' e => (BX w' e).1
  have B1 := fun w' e => (BX w' e).2.1
  clear BX
  have t1 : (r.kind == 1) = false := by rw [hk]; rfl
  have t2 : (r.kind == 2) = false := by rw [hk]; rfl
  have t3 : (r.kind == 3) = false := by rw [hk]; rfl
  have t4 : (r.kind == 4) = false := by rw [hk]; rfl
  have t5 : (r.kind == 5) = false := by rw [hk]; rfl
  have t6 : (r.kind == 6) = false := by rw [hk]; rfl
  have t7 : (r.kind == 7) = false := by rw [hk]; rfl
  have t8 : (r.kind == 8) = false := by rw [hk]; rfl
  have t9 : (r.kind == 9) = false := by rw [hk]; rfl
  have t10 : (r.kind == 10) = true := by rw [hk]; rfl
  have HV : Hid ((kindOk ds r) = (plainB r false true false false 0 && (r.bytes.length == 1 && !(r.bytes.getD 0 0 == 92)))) := by show _ = _; simp [kindOk, hk, Bool.and_assoc]
  rw [HV.out]
  have CP := Lib.hid (fun w => iPlain0100_c r Ab cb An cn At ct Ak ck 0 w h.lens)
  generalize (plainB r false true false false 0) = p at *
  clear HV hk
  have h1 := h.b
  have hlb := h1.len
  unfold vrule vdesc at *
  cases p
  · go_enter Try.func150, Try.ntmps150
    go_wp2_with fail
    refine (CP.out _).mono ?_; rintro _ w1 ⟨rfl, he1⟩
    go_wp2
    go_ret
    exact ⟨ret_bool (by simp), eb.trans he1⟩
  by_cases hl : r.bytes.length = 1
  · have hk0 : 0 < r.bytes.length := by omega
    obtain ⟨bb, ob, rfl, hbb, hcb⟩ := h1.at 0 hk0
    have HG : Hid (r.bytes.getD 0 0 = r.bytes[0]) := by show _ = _; simp [List.getD_eq_getElem?_getD, List.getElem?_eq_getElem hk0]
    rw [HG.out]
    rw [Nat.add_zero] at hcb
    generalize r.bytes[0] = x at *
    have hck' := fun w' (e : Ext _ w') => hcb w' (eb.trans e)
    have l1 : ((r.bytes.length : Int) == 1) = true := by simp [hl]
    have HL : Hid ((r.bytes.length == 1) = true) := by show _ = _; simp [hl]
    rw [HL.out]
    have HX : Hid ((!(x == 92)) = ((x.toNat : Int) != 92)) := by
      show _ = _
      rw [bne]; congr 1
      rw [Bool.eq_iff_iff]; simp only [beq_iff_eq]
      constructor
      · rintro rfl; rfl
      · intro hx; exact u8_inj (by simpa using hx)
    rw [HX.out]
    clear hcb h1 h HG hl HL HX
    go_enter Try.func150, Try.ntmps150
    go_wp2_with fail
    refine (CP.out _).mono ?_; rintro _ w1 ⟨rfl, he1⟩
    go_wp2
    go_ret
    exact ⟨ret_bool (by simp), eb.trans he1⟩
  · have l1 : ((r.bytes.length : Int) == 1) = false := by simp; omega
    have HL : Hid ((r.bytes.length == 1) = false) := by show _ = _; simpa using hl
    rw [HL.out]
    clear hl HL
    go_enter Try.func150, Try.ntmps150
    go_wp2_with fail
    refine (CP.out _).mono ?_; rintro _ w1 ⟨rfl, he1⟩
    go_wp2
    go_ret
    exact ⟨ret_bool (by simp), eb.trans he1⟩
set_option maxRecDepth 100000 in
set_option maxHeartbeats 4000000 in
theorem iKindX_c (A : Option Addr) (ds : List DRule) (c : Nat) (r : DRule) (Ab : Option Addr) (cb : Nat) (An : Option Addr) (cn : Nat) (At : Option Addr) (ct : Nat) (Ak : Option Addr) (ck : Nat) (w : World) (hd : RdD w A ds c) (h : RdS w r Ab cb An cn At ct Ak ck) (hs : ShortR r) (hw : WfR r) (hk : r.kind < 1 ∨ 10 < r.kind) :
    Gives Try.prog 150 #[vdesc (.slice A ds.length c), vrule r (.slice Ab r.bytes.length cb) (.slice An r.names.length cn) (.slice At r.tags.length ct) (.slice Ak r.kids.length ck)] w (.bool (kindOk ds r)) := by
  have eb := Ext_alloc (.cells #[.string r.nm, .int .i64 r.kind, .int .i64 r.size, .bool r.little, .slice Ab r.bytes.length cb, .slice An r.names.length cn, .slice At r.tags.length ct, .slice Ak r.kids.length ck] 76) (Ext_alloc (.cells #[.slice A ds.length c] 38) (Ext.refl w))
  have BX := fun w' (e : Ext ((w.alloc (.cells #[.slice A ds.length c] 38)).alloc (.cells #[.string r.nm, .int .i64 r.kind, .int .i64 r.size, .bool r.little, .slice Ab r.bytes.length cb, .slice An r.names.length cn, .slice At r.tags.length ct, .slice Ak r.kids.length ck] 76)) w') => boxed2 e
  have B0 := fun w' e => (BX w' e).1
  have B1 := fun w' e => (BX w' e).2.1
  clear BX
  have t1 : (r.kind == 1) = false := by simp; omega
  have t2 : (r.kind == 2) = false := by simp; omega
  have t3 : (r.kind == 3) = false := by simp; omega
  have t4 : (r.kind == 4) = false := by simp; omega
  have t5 : (r.kind == 5) = false := by simp; omega
  have t6 : (r.kind == 6) = false := by simp; omega
  have t7 : (r.kind == 7) = false := by simp; omega
  have t8 : (r.kind == 8) = false := by simp; omega
  have t9 : (r.kind == 9) = false := by simp; omega
  have t10 : (r.kind == 10) = false := by simp; omega
  have HV : Hid ((kindOk ds r) = false) := by
    show _ = _; unfold kindOk
    rw [if_neg (by omega), if_neg (by omega), if_neg (by omega), if_neg (by omega), if_neg (by omega), if_neg (by omega), if_neg (by omega), if_neg (by omega), if_neg (by omega), if_neg (by omega)]
  rw [HV.out]
  clear HV hk
  unfold vrule vdesc at *
  go_enter Try.func150, Try.ntmps150
  go_wp2
  go_ret
  exact ⟨rfl, eb⟩
end Go.Proofs.Ytlaejcacembjiaa
