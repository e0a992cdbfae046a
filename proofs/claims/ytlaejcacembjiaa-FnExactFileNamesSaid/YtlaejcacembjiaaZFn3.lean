/- Plain laws of runs of equal bytes: no program in sight. -/
import Derived.Test.YtlaejcacembjiaaZFn2
import Derived.Laws.RangeAny
import Derived.Lib.AppendStr
import Derived.Lib.ConvBytes
set_option linter.unusedVariables false
set_option linter.unusedSimpArgs false
namespace Go.Proofs.Ytlaejcacembjiaa

def runLen : List UInt8 → Nat
  | [] => 0
  | x :: t => 1 + (t.takeWhile (· == x)).length

/-- how many equal bytes begin at an index -/
def runAt (l : List UInt8) (i : Int) : Nat := if 0 ≤ i ∧ i < l.length then runLen (l.drop i.toNat) else 0

theorem takeWhile_len {t : List UInt8} {x : UInt8} : ∀ (k : Nat), (∀ j, j < k → t[j]? = some x) → (t[k]? ≠ some x) → (t.takeWhile (· == x)).length = k := by
  induction t with
  | nil => intro k h _; cases k with
    | zero => rfl
    | succ k => have := h 0 (by omega); simp at this
  | cons y t ih =>
    intro k h hn
    cases k with
    | zero =>
      have : y ≠ x := by simpa using hn
      simp [this]
    | succ k =>
      have hy : y = x := by simpa using h 0 (by omega)
      subst hy
      rw [List.takeWhile_cons]
      simp
      exact ih k (fun j hj => by simpa using h (j+1) (by omega)) (by simpa using hn)

theorem runLen_drop {l : List UInt8} {a k : Nat} (hk : 1 ≤ k) (h : ∀ j, j < k → l[a+j]? = l[a]?) (ha : a < l.length) (hn : l[a+k]? ≠ l[a]?) : runLen (l.drop a) = k := by
  rw [List.drop_eq_getElem_cons ha]
  have hx : l[a]? = some l[a] := by simp [ha]
  rw [hx] at h hn
  have := takeWhile_len (t := l.drop (a+1)) (x := l[a]) (k-1) (fun j hj => by rw [List.getElem?_drop]; have := h (j+1) (by omega); rwa [show a + (j+1) = a + 1 + j by omega] at this) (by rw [List.getElem?_drop]; rwa [show a + 1 + (k-1) = a + k by omega])
  simp only [runLen, this]; omega
theorem runAt_eq {l : List UInt8} {a k : Nat} (hk : 1 ≤ k) (h : ∀ j, j < k → l[a+j]? = l[a]?) (ha : a < l.length) (hn : l[a+k]? ≠ l[a]?) : runAt l a = k := by
  unfold runAt; rw [if_pos (by omega)]; simpa using runLen_drop hk h ha hn
theorem runAt_out {l : List UInt8} {i : Int} (h : ¬ (0 ≤ i ∧ i < l.length)) : runAt l i = 0 := by
  unfold runAt; rw [if_neg h]
theorem takeWhile_spec (t : List UInt8) (x : UInt8) : (t.takeWhile (· == x)).length ≤ t.length ∧ (∀ j, j < (t.takeWhile (· == x)).length → t[j]? = some x) ∧ t[(t.takeWhile (· == x)).length]? ≠ some x := by
  induction t with
  | nil => simp
  | cons y t ih =>
    by_cases hy : y = x
    · subst hy
      rw [List.takeWhile_cons]
      simp only [BEq.rfl, if_true, List.length_cons]
      refine ⟨by omega, fun j hj => ?_, by simp; exact ih.2.2⟩
      cases j with
      | zero => rfl
      | succ j => simpa using ih.2.1 j (by omega)
    · rw [List.takeWhile_cons]
      simp [hy]
/-- what a run is, at an index within the list -/
theorem runAt_spec (l : List UInt8) (a : Nat) (ha : a < l.length) : 1 ≤ runAt l a ∧ a + runAt l a ≤ l.length ∧ (∀ j, j < runAt l a → l[a+j]? = l[a]?) ∧ l[a + runAt l a]? ≠ l[a]? := by
  unfold runAt
  rw [if_pos (by omega), Int.toNat_natCast, List.drop_eq_getElem_cons ha]
  have hx : l[a]? = some l[a] := by simp [ha]
  obtain ⟨h1, h2, h3⟩ := takeWhile_spec (l.drop (a+1)) l[a]
  simp only [runLen]
  rw [hx]
  generalize (List.takeWhile (fun x => x == l[a]) (List.drop (a + 1) l)).length = m at *
  rw [List.length_drop] at h1
  refine ⟨by omega, by omega, fun j hj => ?_, ?_⟩
  · cases j with
    | zero => exact hx
    | succ j => have := h2 j (by omega); rw [List.getElem?_drop] at this; rwa [show a + (j+1) = a + 1 + j by omega]
  · rw [List.getElem?_drop] at h3; rwa [show a + (1 + m) = a + 1 + m by omega]

/-- the number of maximal runs from an index on -/
def countFrom (l : List UInt8) : Nat → Nat → Nat
  | 0, _ => 0
  | f + 1, a => if a < l.length then 1 + countFrom l f (a + runAt l a) else 0
def countRuns (l : List UInt8) : Nat := countFrom l l.length 0
theorem countFrom_fuel (l : List UInt8) : ∀ f g a, l.length - a ≤ f → l.length - a ≤ g → countFrom l f a = countFrom l g a := by
  intro f
  induction f with
  | zero =>
    intro g a h _
    cases g with
    | zero => rfl
    | succ g => rw [countFrom, countFrom, if_neg (by omega)]
  | succ f ih =>
    intro g a h1 h2
    cases g with
    | zero => rw [countFrom, countFrom, if_neg (by omega)]
    | succ g =>
      rw [countFrom, countFrom]
      by_cases ha : a < l.length
      · have := (runAt_spec l a ha).1
        rw [if_pos ha, if_pos ha, ih g _ (by omega) (by omega)]
      · rw [if_neg ha, if_neg ha]
theorem countFrom_step (l : List UInt8) (a : Nat) (ha : a < l.length) : countFrom l l.length a = 1 + countFrom l l.length (a + runAt l a) := by
  have := (runAt_spec l a ha).1
  rw [countFrom_fuel l l.length (l.length + 1) a (by omega) (by omega), countFrom, if_pos ha]
theorem countFrom_end (l : List UInt8) (a : Nat) (ha : l.length ≤ a) : countFrom l l.length a = 0 := by
  rw [countFrom_fuel l l.length 0 a (by omega) (by omega), countFrom]
theorem countFrom_le (l : List UInt8) : ∀ f a, countFrom l f a ≤ f := by
  intro f
  induction f with
  | zero => intro a; simp [countFrom]
  | succ f ih => intro a; rw [countFrom]; split; have := ih (a + runAt l a); omega; omega
theorem runAt_le (l : List UInt8) (i : Int) : runAt l i ≤ l.length := by
  unfold runAt
  split
  · rename_i h
    have := (runAt_spec l i.toNat (by omega)).2.1
    unfold runAt at this; rw [if_pos (by omega), Int.toNat_natCast] at this; omega
  · omega
end Go.Proofs.Ytlaejcacembjiaa

/- RunAt and CountRuns of the program and of the reference. -/
namespace Go.Proofs.Ytlaejcacembjiaa
open Go.RowKit Go.Sort

set_option maxHeartbeats 400000 in
theorem l1In_c (n a b : Int) (w : World) : Gives Try.prog 104 #[.int .i64 n, .int .i64 a, .int .i64 b] w (.bool (decide (a ≤ n) && decide (n ≤ b))) := by
  by_cases h : a ≤ n
  · go_enter Try.func104, Try.ntmps104
    go_wp2
    go_ret
    exact ⟨ret_bool (by simp [h]), Ext.refl _⟩
  · go_enter Try.func104, Try.ntmps104
    go_wp2
    go_ret
    exact ⟨ret_bool (by simp; omega), Ext.refl _⟩

theorem runs_step {l : List UInt8} {a k : Nat} (hlt : a + k < l.length) (ha : a < l.length) (hs : ∀ j, j < k → l[a+j]? = l[a]?) (e : l[a+k] = l[a]) : ∀ j, j < k + 1 → l[a+j]? = l[a]? := by
  intro j hj
  by_cases h : j < k
  · exact hs j h
  · obtain rfl : j = k := by omega
    rw [List.getElem?_eq_getElem hlt, List.getElem?_eq_getElem ha, e]

set_option maxHeartbeats 400000 in
theorem iRunAt_c (A : Option Addr) (l : List UInt8) (c : Nat) (i : Int) (w : World) (h : Bs w A l c) :
    Gives Try.prog 189 #[.slice A l.length c, .int .i64 i] w (.int .i64 (runAt l i)) := by
  have hl := h.len
  by_cases hi : 0 ≤ i ∧ i < l.length
  · obtain ⟨h0, h1⟩ := hi
    obtain ⟨a, rfl⟩ := Int.eq_ofNat_of_zero_le h0
    have ha : a < l.length := by omega
    have hd1 : decide ((a : Int) < 0) = false := by simp
    have hd2 : decide ((l.length : Int) ≤ (a : Int)) = false := by simp; omega
    have hd3 : decide (l.length ≤ a) = false := by simp; omega
    go_enter Try.func189, Try.ntmps189
    go_wp2
    go_loopw [5] (fun n wr => ∃ k : Nat, 1 ≤ k ∧ a + k ≤ l.length ∧ n = .int .i64 k ∧ Hid (∀ j, j < k → l[a+j]? = l[a]?) ∧ Ext w wr) (fun n _ => l.length - (intOf n).toNat)
    case atStart => exact ⟨1, by omega, by omega, rfl, (fun j hj => by rw [show j = 0 by omega]; rfl), Ext.refl _⟩
    case round =>
      obtain ⟨k, hk1, hk, rfl, hs, he⟩ := hrel
      by_cases hlt : a + k < l.length
      · obtain ⟨b, off, rfl, hb, hc⟩ := h.at a ha
        obtain ⟨b', off', e', hb', hc'⟩ := h.at (a+k) hlt
        injection e' with e'; injection e' with e1 e2; subst e1; subst e2
        have hg : decide ((a : Int) + (k : Int) < (l.length : Int)) = true := by simp; omega
        clear h
        go_wp2
        refine wp_region_quiet_below (by kernel_rfl) (by kernel_rfl) ?_
        repeat (go_big_quiet_step (fail))
        refine wpQuiet_nil ?_
        rintro _ ⟨⟨nq, osq⟩, rfl⟩
        go_wp2
        · have hne : ((l[a+k].toNat : Int) == (l[a].toNat : Int)) = true := by assumption
          go_roundw
          case rel => exact ⟨k+1, by omega, by omega, by go_num, runs_step hlt ha hs (u8_inj (by simpa using hne)), Ext_regrown _ _ he⟩
          case measure => simp [intOf]; omega
        · have hne : ((l[a+k].toNat : Int) == (l[a].toNat : Int)) = false := by assumption
          go_ret
          refine ⟨ret_i64 ?_, Ext_regrown _ _ he⟩
          rw [runAt_eq hk1 hs ha (by rw [List.getElem?_eq_getElem hlt, List.getElem?_eq_getElem ha]; simp; intro e; simp [e] at hne)]
      · have hg : decide ((a : Int) + (k : Int) < (l.length : Int)) = false := by simp; omega
        clear h
        go_wp2
        refine wp_region_quiet_below (by kernel_rfl) (by kernel_rfl) ?_
        repeat (go_big_quiet_step (fail))
        refine wpQuiet_nil ?_
        rintro _ ⟨⟨nq, osq⟩, rfl⟩
        go_wp2
        go_ret
        refine ⟨ret_i64 ?_, Ext_regrown _ _ he⟩
        rw [runAt_eq hk1 hs ha (by rw [List.getElem?_eq_none (by omega)]; simp; omega)]
  · by_cases h0 : i < 0
    · go_enter Try.func189, Try.ntmps189
      go_wp2
      go_ret
      exact ⟨ret_i64 (by rw [runAt_out hi]; rfl), Ext.refl _⟩
    · have h1 : (l.length : Int) ≤ i := by omega
      go_enter Try.func189, Try.ntmps189
      go_wp2
      go_ret
      exact ⟨ret_i64 (by rw [runAt_out hi]; rfl), Ext.refl _⟩

set_option maxHeartbeats 400000 in
theorem sRunAt_c (A : Option Addr) (l : List UInt8) (c : Nat) (i : Int) (w : World) (h : Bs w A l c) (hi : (Lit.int .i64 i).wf = true) :
    Gives Try.prog 187 #[.slice A l.length c, .int .i64 i] w (.int .i64 (runAt l i)) := by
  have hl := h.len
  by_cases hi : 0 ≤ i ∧ i < l.length
  · obtain ⟨h0, h1⟩ := hi
    obtain ⟨a, rfl⟩ := Int.eq_ofNat_of_zero_le h0
    have ha : a < l.length := by omega
    have hq : (decide ((0 : Int) ≤ (a : Int)) && decide ((a : Int) ≤ (l.length : Int) - 1)) = true := by simp; omega
    have HQ := Lib.hid hq; clear hq
    go_enter Try.func187, Try.ntmps187
    go_wp2_with (go_at_call 104; refine (l1In_c _ _ _ _).mono ?_; rintro e w1 ⟨rfl, he⟩; rw [HQ.out])
    go_loopw [5] (fun n wr => ∃ k : Nat, a + k ≤ l.length ∧ n = .int .i64 k ∧ Hid (∀ j, j < k → l[a+j]? = l[a]?) ∧ Ext w wr) (fun n _ => l.length - (intOf n).toNat)
    case atStart => exact ⟨0, by omega, rfl, (fun j hj => by omega), he⟩
    case round =>
      clear he
      obtain ⟨k, hk, rfl, hs, he⟩ := hrel
      by_cases hlt : a + k < l.length
      · obtain ⟨b, off, rfl, hb, hc⟩ := h.at a ha
        obtain ⟨b', off', e', hb', hc'⟩ := h.at (a+k) hlt
        injection e' with e'; injection e' with e1 e2; subst e1; subst e2
        have hg : decide ((a : Int) + (k : Int) < (l.length : Int)) = true := by simp; omega
        clear h
        go_wp2
        refine wp_region_quiet_below (by kernel_rfl) (by kernel_rfl) ?_
        repeat (go_big_quiet_step (fail))
        refine wpQuiet_nil ?_
        rintro _ ⟨⟨nq, osq⟩, rfl⟩
        go_wp2
        · have hne : ((l[a+k].toNat : Int) == (l[a].toNat : Int)) = true := by assumption
          go_roundw
          case rel => exact ⟨k+1, by omega, by go_num, runs_step hlt ha hs (u8_inj (by simpa using hne)), Ext_regrown _ _ he⟩
          case measure => simp [intOf]; omega
        · have hne : ((l[a+k].toNat : Int) == (l[a].toNat : Int)) = false := by assumption
          go_ret
          refine ⟨ret_i64 ?_, Ext_regrown _ _ he⟩
          rcases Nat.eq_zero_or_pos k with rfl | hk1
          · simp at hne
          rw [runAt_eq hk1 hs ha (by rw [List.getElem?_eq_getElem hlt, List.getElem?_eq_getElem ha]; simp; intro e; simp [e] at hne)]
      · have hg : decide ((a : Int) + (k : Int) < (l.length : Int)) = false := by simp; omega
        clear h
        go_wp2
        refine wp_region_quiet_below (by kernel_rfl) (by kernel_rfl) ?_
        repeat (go_big_quiet_step (fail))
        refine wpQuiet_nil ?_
        rintro _ ⟨⟨nq, osq⟩, rfl⟩
        go_wp2
        go_ret
        refine ⟨ret_i64 ?_, Ext_regrown _ _ he⟩
        rw [runAt_eq (by omega) hs ha (by rw [List.getElem?_eq_none (by omega)]; simp; omega)]
  · have hq : (decide ((0 : Int) ≤ i) && decide (i ≤ (l.length : Int) - 1)) = false := by simp; omega
    have HQ := Lib.hid hq; clear hq
    go_enter Try.func187, Try.ntmps187
    go_wp2_with (go_at_call 104; refine (l1In_c _ _ _ _).mono ?_; rintro e w1 ⟨rfl, he⟩; rw [HQ.out])
    go_ret
    exact ⟨ret_i64 (by rw [runAt_out hi]; rfl), he⟩

end Go.Proofs.Ytlaejcacembjiaa

/- SumOfBytes, BigEndian, ReadInteger. -/
namespace Go.Proofs.Ytlaejcacembjiaa
open Go.RowKit Go.Sort

/-- the sum of bytes -/
def sumB : List UInt8 → Nat
  | [] => 0
  | x :: t => x.toNat + sumB t
theorem sumB_append (a b : List UInt8) : sumB (a ++ b) = sumB a + sumB b := by
  induction a with
  | nil => simp [sumB]
  | cons x t ih => simp [sumB, ih]; omega
theorem sumB_take {l : List UInt8} {k : Nat} (h : k < l.length) : sumB (l.take (k+1)) = sumB (l.take k) + l[k].toNat := by
  rw [List.take_succ_eq_append_getElem h, sumB_append]; simp [sumB]
theorem sumB_le (l : List UInt8) : sumB l ≤ 255 * l.length := by
  induction l with
  | nil => simp [sumB]
  | cons x t ih => have := x.toNat_lt; simp only [sumB, List.length_cons]; omega

set_option maxHeartbeats 400000 in
theorem iSumOfBytes_c (A : Option Addr) (l : List UInt8) (c : Nat) (w : World) (h : Bs w A l c) (hL : l.length ≤ 1099511627776) :
    Gives Try.prog 186 #[.slice A l.length c] w (.int .i64 (sumB l % 256 : Nat)) := by
  have hsz := sumB_le l
  go_enter Try.func186, Try.ntmps186
  go_wp2
  go_loopw [3, 8] (fun s i wr => ∃ k : Nat, k ≤ l.length ∧ i = .int .i64 k ∧ s = .int .i64 (sumB (l.take k) : Nat) ∧ Ext w wr) (fun _ i _ => l.length - (intOf i).toNat)
  case atStart => exact ⟨0, by omega, rfl, by simp [sumB], Ext.refl _⟩
  case round =>
    obtain ⟨k, hk, rfl, rfl, he⟩ := hrel
    by_cases hlt : k < l.length
    · obtain ⟨b, off, rfl, hb, hc⟩ := h.at k hlt
      have hst := Lib.hid (sumB_take hlt)
      have h1 := sumB_le (l.take k)
      have h2 : (l.take k).length ≤ k := List.length_take_le _ _
      have h3 := l[k].toNat_lt
      generalize hs : sumB (l.take k) = s at *
      clear hs
      go_wp2
      go_roundw
      case rel => exact ⟨k+1, by omega, by go_num, by rw [hst.out]; go_num, he⟩
      case measure => simp [intOf]; omega
    · obtain rfl : k = l.length := by omega
      have ht : sumB (l.take l.length) = sumB l := by rw [List.take_of_length_le (by omega)]
      rw [ht]
      have hq : ∃ s, s = sumB l := ⟨_, rfl⟩
      obtain ⟨s, hs⟩ := hq
      have hb : s ≤ 255 * l.length := by rw [hs]; exact hsz
      rw [← hs]
      have HQ := Lib.hid hs; clear hs ht hsz
      go_wp2
      go_ret
      exact ⟨ret_i64 (by rw [← HQ.out]; omega), he⟩
set_option maxHeartbeats 400000 in
theorem sSumOfBytes_c (A : Option Addr) (l : List UInt8) (c : Nat) (w : World) (h : Bs w A l c) :
    Gives Try.prog 183 #[.slice A l.length c] w (.int .i64 (sumB l % 256 : Nat)) := by
  have hl := h.len
  go_enter Try.func183, Try.ntmps183
  go_wp2
  go_loopw [3, 4] (fun s i wr => ∃ k m : Nat, k ≤ l.length ∧ i = .int .i64 k ∧ s = .int .i64 m ∧ m < 256 ∧ Hid (m = sumB (l.take k) % 256) ∧ Ext w wr) (fun _ i _ => l.length - (intOf i).toNat)
  case atStart => exact ⟨0, 0, by omega, rfl, rfl, by omega, by simp [Hid, sumB], Ext.refl _⟩
  case round =>
    obtain ⟨k, m, hk, rfl, rfl, hm, hs, he⟩ := hrel
    by_cases hlt : k < l.length
    · obtain ⟨b, off, rfl, hb, hc⟩ := h.at k hlt
      have hst := Lib.hid (sumB_take hlt)
      have h3 := l[k].toNat_lt
      go_wp2
      go_roundw
      case rel => exact ⟨k+1, (m + l[k].toNat) % 256, by omega, by go_num, by congr 1, by omega, (by show _ = _; rw [hst.out, hs.out]; omega), he⟩
      case measure => simp [intOf]; omega
    · obtain rfl : k = l.length := by omega
      have ht : sumB (l.take l.length) = sumB l := by rw [List.take_of_length_le (by omega)]
      have hq := hs.out; rw [ht] at hq
      have HQ := Lib.hid hq; clear hq ht hs
      go_wp2
      go_ret
      exact ⟨ret_i64 (by rw [HQ.out]), he⟩
end Go.Proofs.Ytlaejcacembjiaa

/- Plain laws of packing: no program in sight. -/
namespace Go.Proofs.Ytlaejcacembjiaa

/-- where the bytes that are laid as they are end -/
def litF (l : List UInt8) (a : Nat) : Nat → Nat → Nat
  | 0, k => k
  | f + 1, k => if k < l.length ∧ k - a < 127 ∧ runAt l k < 3 then litF l a f (k + 1) else k
def litEnd (l : List UInt8) (a k : Nat) : Nat := litF l a (l.length - k) k
theorem litEnd_step {l : List UInt8} {a k : Nat} (h : k < l.length ∧ k - a < 127 ∧ runAt l k < 3) : litEnd l a k = litEnd l a (k + 1) := by
  unfold litEnd
  obtain ⟨n, hn⟩ : ∃ n, l.length - k = n + 1 := ⟨l.length - k - 1, by omega⟩
  rw [hn, litF, if_pos h, show l.length - (k + 1) = n by omega]
theorem litEnd_stop {l : List UInt8} {a k : Nat} (h : ¬ (k < l.length ∧ k - a < 127 ∧ runAt l k < 3)) : litEnd l a k = k := by
  unfold litEnd
  cases l.length - k with
  | zero => rfl
  | succ n => rw [litF, if_neg h]
theorem litF_ge (l : List UInt8) (a : Nat) : ∀ f k, k ≤ litF l a f k := by
  intro f
  induction f with
  | zero => intro k; exact Nat.le_refl _
  | succ f ih => intro k; rw [litF]; split; exact Nat.le_trans (Nat.le_succ k) (ih (k+1)); exact Nat.le_refl _
theorem litF_le (l : List UInt8) (a : Nat) : ∀ f k, k ≤ l.length → k - a ≤ 127 → litF l a f k ≤ l.length ∧ litF l a f k - a ≤ 127 := by
  intro f
  induction f with
  | zero => intro k h1 h2; exact ⟨h1, h2⟩
  | succ f ih => intro k h1 h2; rw [litF]; split; exact ih (k+1) (by omega) (by omega); exact ⟨h1, h2⟩
theorem litEnd_ge (l : List UInt8) (a k : Nat) : k ≤ litEnd l a k := litF_ge l a _ k
theorem litEnd_le {l : List UInt8} {a k : Nat} (h1 : k ≤ l.length) (h2 : k - a ≤ 127) : litEnd l a k ≤ l.length ∧ litEnd l a k - a ≤ 127 := litF_le l a _ k h1 h2
theorem litEnd_gt {l : List UInt8} {a : Nat} (h : a < l.length) (hr : runAt l a < 3) : litEnd l a a = litEnd l a (a + 1) := litEnd_step ⟨h, by omega, hr⟩

/-- what stands for the bytes from an index on -/
def packF (l : List UInt8) : Nat → Nat → List UInt8
  | 0, _ => []
  | f + 1, a =>
    if h : a < l.length then
      if 3 ≤ runAt l a then UInt8.ofNat (128 + min (runAt l a) 127) :: l[a] :: packF l f (a + min (runAt l a) 127)
      else UInt8.ofNat (litEnd l a a - a) :: ((l.drop a).take (litEnd l a a - a) ++ packF l f (litEnd l a a))
    else []
theorem packF_fuel (l : List UInt8) : ∀ f g a, l.length - a ≤ f → l.length - a ≤ g → packF l f a = packF l g a := by
  intro f
  induction f with
  | zero =>
    intro g a h _
    cases g with
    | zero => rfl
    | succ g => rw [packF, packF, dif_neg (by omega)]
  | succ f ih =>
    intro g a h1 h2
    cases g with
    | zero => rw [packF, packF, dif_neg (by omega)]
    | succ g =>
      rw [packF, packF]
      by_cases ha : a < l.length
      · rw [dif_pos ha, dif_pos ha]
        by_cases hr : 3 ≤ runAt l a
        · rw [if_pos hr, if_pos hr, ih g _ (by omega) (by omega)]
        · have := litEnd_ge l a (a+1)
          rw [if_neg hr, if_neg hr, litEnd_gt ha (by omega), ih g _ (by omega) (by omega)]
      · rw [dif_neg ha, dif_neg ha]
def packAt (l : List UInt8) (a : Nat) : List UInt8 := packF l l.length a
def pack (l : List UInt8) : List UInt8 := packAt l 0
theorem packAt_end {l : List UInt8} {a : Nat} (h : l.length ≤ a) : packAt l a = [] := by
  unfold packAt; rw [packF_fuel l l.length 0 a (by omega) (by omega), packF]
theorem packAt_run {l : List UInt8} {a : Nat} (h : a < l.length) (hr : 3 ≤ runAt l a) : packAt l a = UInt8.ofNat (128 + min (runAt l a) 127) :: l[a] :: packAt l (a + min (runAt l a) 127) := by
  unfold packAt; rw [packF_fuel l l.length (l.length + 1) a (by omega) (by omega), packF, dif_pos h, if_pos hr]
theorem packAt_lit {l : List UInt8} {a : Nat} (h : a < l.length) (hr : ¬ 3 ≤ runAt l a) : packAt l a = UInt8.ofNat (litEnd l a a - a) :: ((l.drop a).take (litEnd l a a - a) ++ packAt l (litEnd l a a)) := by
  unfold packAt; rw [packF_fuel l l.length (l.length + 1) a (by omega) (by omega), packF, dif_pos h, if_neg hr]
/-- three equal bytes begin at an index -/
theorem run3 {l : List UInt8} {a : Nat} : (3 ≤ runAt l a) ↔ (a + 2 < l.length ∧ l[a]? = l[a+1]? ∧ l[a]? = l[a+2]?) := by
  by_cases ha : a < l.length
  · obtain ⟨h1, h2, h3, h4⟩ := runAt_spec l a ha
    constructor
    · intro h
      exact ⟨by omega, (h3 1 (by omega)).symm, (h3 2 (by omega)).symm⟩
    · rintro ⟨g1, g2, g3⟩
      rcases Nat.lt_or_ge (runAt l a) 3 with hlt | hge
      · rcases (by omega : runAt l a = 1 ∨ runAt l a = 2) with e | e
        · rw [e] at h4; exact absurd g2.symm h4
        · rw [e] at h4; exact absurd g3.symm h4
      · exact hge
  · rw [runAt_out (by omega)]; omega
theorem packF_le (l : List UInt8) : ∀ f a, a ≤ l.length → (packF l f a).length ≤ 2 * (l.length - a) := by
  intro f
  induction f with
  | zero => intro a _; simp [packF]
  | succ f ih =>
    intro a ha
    rw [packF]
    split
    · rename_i h
      split
      · rename_i hr
        have h2 := (runAt_spec l a h).2.1
        have := ih (a + min (runAt l a) 127) (by omega)
        simp only [List.length_cons]; omega
      · rename_i hr
        have h1 := litEnd_ge l a (a+1)
        rw [litEnd_gt h (by omega)]
        have h2 := (litEnd_le (l := l) (a := a) (k := a+1) (by omega) (by omega)).1
        have := ih (litEnd l a (a+1)) (by omega)
        simp only [List.length_cons, List.length_append, List.length_take, List.length_drop]; omega
    · simp
theorem packAt_le (l : List UInt8) (a : Nat) (h : a ≤ l.length) : (packAt l a).length ≤ 2 * (l.length - a) := packF_le l _ a h
theorem pack_le (l : List UInt8) : (pack l).length ≤ 2 * l.length := packAt_le l 0 (by omega)
end Go.Proofs.Ytlaejcacembjiaa

/- Plain laws of unpacking: no program in sight. -/
namespace Go.Proofs.Ytlaejcacembjiaa

def unpackF : Nat → List UInt8 → List UInt8 → Option (List UInt8)
  | _, [], out => some out
  | 0, _ :: _, _ => none
  | f + 1, x :: t, out =>
    if x = 0 ∨ x = 128 ∨ t = [] then none
    else if x < 128 then
      if t.length < x.toNat then none
      else if 1000 < (out ++ t.take x.toNat).length then none
      else unpackF f (t.drop x.toNat) (out ++ t.take x.toNat)
    else
      if 1000 < (out ++ List.replicate (x.toNat - 128) (t.headD 0)).length then none
      else unpackF f t.tail (out ++ List.replicate (x.toNat - 128) (t.headD 0))
/-- what bytes are unpacked to, if they can be -/
def unpack (l : List UInt8) : Option (List UInt8) := unpackF l.length l []
theorem unpackF_fuel : ∀ f g b out, b.length ≤ f → b.length ≤ g → unpackF f b out = unpackF g b out := by
  intro f
  induction f with
  | zero =>
    intro g b out h _
    obtain rfl : b = [] := List.eq_nil_of_length_eq_zero (by omega)
    cases g <;> rfl
  | succ f ih =>
    intro g b out h1 h2
    cases b with
    | nil => cases g <;> rfl
    | cons x t =>
      cases g with
      | zero => simp at h2
      | succ g =>
        simp only [List.length_cons] at h1 h2
        simp only [unpackF]
        rw [ih g (t.drop x.toNat) _ (by rw [List.length_drop]; omega) (by rw [List.length_drop]; omega), ih g t.tail _ (by rw [List.length_tail]; omega) (by rw [List.length_tail]; omega)]
/-- what is left to do at an index -/
def unpackAt (l : List UInt8) (a : Nat) (out : List UInt8) : Option (List UInt8) := unpackF l.length (l.drop a) out
theorem unpackAt_end (l : List UInt8) (a : Nat) (out : List UInt8) (h : l.length ≤ a) : unpackAt l a out = some out := by
  unfold unpackAt; rw [List.drop_of_length_le h]; cases l.length <;> rfl
theorem unpackAt_step (l : List UInt8) (a : Nat) (out : List UInt8) (h : a < l.length) : unpackAt l a out =
    if l[a] = 0 ∨ l[a] = 128 ∨ l.length = a + 1 then none
    else if l[a] < 128 then
      if l.length < a + 1 + l[a].toNat then none
      else if 1000 < out.length + l[a].toNat then none
      else unpackAt l (a + 1 + l[a].toNat) (out ++ (l.drop (a+1)).take l[a].toNat)
    else
      if 1000 < out.length + (l[a].toNat - 128) then none
      else unpackAt l (a + 2) (out ++ List.replicate (l[a].toNat - 128) ((l.drop (a+1)).headD 0)) := by
  unfold unpackAt
  obtain ⟨n, hn⟩ : ∃ n, l.length = n + 1 := ⟨l.length - 1, by omega⟩
  have e0 : l.drop a = l[a] :: l.drop (a+1) := List.drop_eq_getElem_cons h
  have e1 : ((l.drop (a+1) = []) ↔ l.length = a + 1) := by rw [List.drop_eq_nil_iff]; omega
  have hl1 : (l.drop (a+1)).length = l.length - (a+1) := List.length_drop
  rw [e0]
  conv => lhs; rw [hn]
  simp only [unpackF, e1, List.drop_drop, List.tail_drop, List.length_append, List.length_replicate, List.length_take, hl1]
  by_cases c1 : l[a] = 0 ∨ l[a] = 128 ∨ l.length = a + 1
  · rw [if_pos c1, if_pos c1]
  · rw [if_neg c1, if_neg c1]
    by_cases c2 : l[a] < 128
    · rw [if_pos c2, if_pos c2]
      by_cases c3 : l.length < a + 1 + l[a].toNat
      · rw [if_pos (by omega), if_pos c3]
      · rw [if_neg (by omega), if_neg c3, Nat.min_eq_left (by omega)]
        by_cases c4 : 1000 < out.length + l[a].toNat
        · rw [if_pos c4, if_pos c4]
        · rw [if_neg c4, if_neg c4]
          exact unpackF_fuel _ _ _ _ (by rw [List.length_drop]; omega) (by rw [List.length_drop]; omega)
    · rw [if_neg c2, if_neg c2]
      by_cases c4 : 1000 < out.length + (l[a].toNat - 128)
      · rw [if_pos c4, if_pos c4]
      · rw [if_neg c4, if_neg c4]
        exact unpackF_fuel _ _ _ _ (by rw [List.length_drop]; omega) (by rw [List.length_drop]; omega)
end Go.Proofs.Ytlaejcacembjiaa

/- Records by value: the laws' helpers and EqualRecords. -/
namespace Go.Proofs.Ytlaejcacembjiaa
open Go.RowKit Go.Sort

def vrec (k : Int) (nm : ByteArray) (ver : Int) (v : Value) : Value := .agg #[.int .i64 k, .string nm, .int .i64 ver, v]
/-- what is left of the size of a record -/
def szR (n m : Nat) (left : Int) : Int := if szN n left < 0 then -1 else szN m (szN n left)
end Go.Proofs.Ytlaejcacembjiaa

/- IsName of the program and of the reference. -/
namespace Go.Proofs.Ytlaejcacembjiaa
open Go.RowKit Go.Sort

/-- may this byte stand at this place of a name -/
def nameCh (i : Nat) (x : UInt8) : Bool := decide (97 ≤ x.toNat ∧ x.toNat ≤ 122) || (decide (48 ≤ x.toNat ∧ x.toNat ≤ 57) && decide (i ≠ 0))
def okCh (s : ByteArray) (i : Nat) : Bool := if h : i < s.size then nameCh i s[i] else true
def isName (s : ByteArray) : Bool := decide (1 ≤ s.size ∧ s.size ≤ 12) && (List.range s.size).all (okCh s)
theorem isName_no {s : ByteArray} {k : Nat} (hk : k < s.size) (h : okCh s k = false) : isName s = false := by
  unfold isName
  rw [Bool.and_eq_false_iff]; right
  rw [Bool.eq_false_iff]
  intro hall
  have := List.all_eq_true.1 hall k (by simpa using hk)
  rw [h] at this; cases this
theorem isName_all {s : ByteArray} (h : ∀ j, j < s.size → okCh s j = true) : isName s = decide (1 ≤ s.size ∧ s.size ≤ 12) := by
  unfold isName
  rw [List.all_eq_true.2 (fun j hj => h j (by simpa using hj)), Bool.and_true]
theorem okCh_at {s : ByteArray} {k : Nat} (hk : k < s.size) : okCh s k = nameCh k s[k] := dif_pos hk

set_option maxRecDepth 100000 in
set_option maxHeartbeats 2000000 in
theorem sIsName_c (s : ByteArray) (w : World) (hs : s.size ≤ 9223372036854775807) : Gives Try.prog 141 #[.string s] w (.bool (isName s)) := by
  go_enter Try.func141, Try.ntmps141
  go_wp2
  go_loopw [3] (fun i wr => ∃ k : Nat, k ≤ s.size ∧ i = .int .i64 k ∧ Hid (∀ j, j < k → okCh s j = true) ∧ Ext w wr) (fun i _ => s.size - (intOf i).toNat)
  case atStart => exact ⟨0, by omega, rfl, (fun j hj => by omega), Ext.refl _⟩
  case round =>
    obtain ⟨k, hk, rfl, ho, he⟩ := hrel
    by_cases hlt : k < s.size
    · have hb : (s[k].toNat : Int) ≤ 255 := by have := s[k].toNat_lt; omega
      have hok := Lib.hid (okCh_at hlt)
      rcases (by omega : (s[k].toNat : Int) < 48 ∨ ((48 : Int) ≤ s[k].toNat ∧ (s[k].toNat : Int) ≤ 57 ∧ k = 0) ∨ ((48 : Int) ≤ s[k].toNat ∧ (s[k].toNat : Int) ≤ 57 ∧ 0 < k) ∨ ((57 : Int) < s[k].toNat ∧ (s[k].toNat : Int) < 97) ∨ ((97 : Int) ≤ s[k].toNat ∧ (s[k].toNat : Int) ≤ 122) ∨ (122 : Int) < s[k].toNat) with c | ⟨c, c', rfl⟩ | ⟨c, c', c''⟩ | ⟨c, c'⟩ | ⟨c, c'⟩ | c
      all_goals
        go_wp2
        all_goals first
          | (exfalso
             have hq : (!decide ((s[k].toNat : Int) ≤ 122)) = false := by assumption
             simp at hq
             omega)
          | (go_ret
             refine ⟨ret_bool ?_, he⟩
             rw [isName_no hlt]
             rw [hok.out]; unfold nameCh; simp; omega)
          | (go_roundw
             case rel => exact ⟨k+1, by omega, by go_num, (fun j hj => by
               rcases (by omega : j < k ∨ j = k) with hj | rfl
               · exact ho.out j hj
               · rw [hok.out]; unfold nameCh; simp; omega), he⟩
             case measure => simp [intOf]; omega)
    · obtain rfl : k = s.size := by omega
      have HE := Lib.hid (isName_all ho.out)
      go_wp2_with (go_at_call 104; refine (l1In_c _ _ _ _).mono ?_; rintro _ w1 ⟨rfl, he1⟩)
      go_ret
      refine ⟨ret_bool ?_, he.trans he1⟩
      rw [HE.out, Bool.eq_iff_iff]; simp; omega

set_option maxRecDepth 100000 in
set_option maxHeartbeats 2000000 in
theorem iIsName_c (s : ByteArray) (w : World) (hs : s.size ≤ 9223372036854775807) : Gives Try.prog 149 #[.string s] w (.bool (isName s)) := by
  by_cases hlen : 1 ≤ s.size ∧ s.size ≤ 12
  · obtain ⟨hlo, hhi⟩ := hlen
    have d1 : decide ((s.size : Int) < 1) = false := by simp; omega
    have d2 : decide ((12 : Int) < (s.size : Int)) = false := by simp; omega
    go_enter Try.func149, Try.ntmps149
    go_wp2
    go_loopw [3, 4, 5, 6] (fun _ _ _ _ wr => ∃ k : Nat, k ≤ s.size ∧ Hid (∀ j, j < k → okCh s j = true) ∧ wr = w.iter s k) (fun _ _ _ _ wr => s.size - wr.iterPos w.heap.size)
    case atStart => exact ⟨0, by omega, (fun j hj => by omega), rfl⟩
    case round =>
      obtain ⟨k, hk, ho, rfl⟩ := hrel
      by_cases hlt : k < s.size
      · have hok := Lib.hid (okCh_at hlt)
        by_cases ha : s[k].toNat < 128
        · have hnx : ∀ ty, (Instr.next (.pointer (some ⟨w.heap.size, 0, none⟩)) true ty).run Try.prog (w.iter s k) = _ := fun ty => run_next_ascii w s k ty hlt ha
          rcases (by omega : (s[k].toNat : Int) < 48 ∨ ((48 : Int) ≤ s[k].toNat ∧ (s[k].toNat : Int) ≤ 57 ∧ k = 0) ∨ ((48 : Int) ≤ s[k].toNat ∧ (s[k].toNat : Int) ≤ 57 ∧ 0 < k) ∨ ((57 : Int) < s[k].toNat ∧ (s[k].toNat : Int) < 97) ∨ ((97 : Int) ≤ s[k].toNat ∧ (s[k].toNat : Int) ≤ 122) ∨ (122 : Int) < s[k].toNat) with c | ⟨c, c', rfl⟩ | ⟨c, c', c''⟩ | ⟨c, c'⟩ | ⟨c, c'⟩ | c
          all_goals
            go_wp2
            all_goals first
              | (exfalso
                 have hq : (!decide ((s[k].toNat : Int) ≤ 122)) = false := by assumption
                 simp at hq
                 omega)
              | (go_ret
                 refine ⟨ret_bool ?_, Ext_alloc _ (Ext.refl w)⟩
                 rw [isName_no hlt]
                 rw [hok.out]; unfold nameCh; simp; omega)
              | (go_roundw
                 case rel => exact ⟨k+1, by omega, (fun j hj => by
                   rcases (by omega : j < k ∨ j = k) with hj | rfl
                   · exact ho.out j hj
                   · rw [hok.out]; unfold nameCh; simp; omega), rfl⟩
                 case measure => simp; omega)
        · obtain ⟨hr1, hr2⟩ := decode_high s k hlt (by omega)
          have hr3 := decode_le s k
          have hnx : ∀ ty, (Instr.next (.pointer (some ⟨w.heap.size, 0, none⟩)) true ty).run Try.prog (w.iter s k) = _ := fun ty => run_next_any w s k ty hlt
          generalize (Utf8.decode s k).1 = rn at *
          generalize (Utf8.decode s k).2 = wd at *
          have d1 : decide ((rn : Int) ≤ 122) = false := by simp; omega
          have d2 : decide ((rn : Int) ≤ 57) = false := by simp; omega
          have hr1 : (128 : Int) ≤ (rn : Int) := by omega
          go_wp2
          go_ret
          refine ⟨ret_bool ?_, Ext_alloc _ (Ext.refl w)⟩
          rw [isName_no hlt]
          rw [hok.out]; unfold nameCh; simp; omega
      · obtain rfl : k = s.size := by omega
        have HE := Lib.hid (isName_all ho.out)
        have hnx : ∀ ty, (Instr.next (.pointer (some ⟨w.heap.size, 0, none⟩)) true ty).run Try.prog (w.iter s s.size) = _ := fun ty => run_next_end w s s.size ty hlt
        go_wp2
        go_ret
        refine ⟨ret_bool ?_, Ext_alloc _ (Ext.refl w)⟩
        rw [HE.out]; simp; omega
  · have hno : Hid (isName s = false) := by show _ = _; unfold isName; rw [decide_eq_false hlen]; rfl
    rcases (by omega : (s.size : Int) < 1 ∨ ((1 : Int) ≤ s.size ∧ (12 : Int) < s.size)) with c | ⟨c, c'⟩
    all_goals
      go_enter Try.func149, Try.ntmps149
      go_wp2
      go_ret
      exact ⟨ret_bool hno.out.symm, Ext.refl w⟩
end Go.Proofs.Ytlaejcacembjiaa

/- IsValidRecord of the program and of the reference. -/
namespace Go.Proofs.Ytlaejcacembjiaa
open Go.RowKit Go.Sort

def validRec (k : Int) (nm : ByteArray) (ver : Int) (n : Nat) : Bool :=
  isName nm && (decide (0 ≤ ver) && decide (ver ≤ 7)) && decide (n ≤ 400) && (k == 1 || (k == 2 && ver == 0 && (n : Int) == 0))

set_option maxRecDepth 100000 in
set_option maxHeartbeats 4000000 in
theorem iIsValidRecord_c (k : Int) (nm : ByteArray) (ver : Int) (A : Option Addr) (l : List UInt8) (c : Nat) (w : World) (hl : l.length ≤ 140737488351232) (hn : nm.size ≤ 9223372036854775807) :
    Gives Try.prog 175 #[vrec k nm ver (.slice A l.length c)] w (.bool (validRec k nm ver l.length)) := by
  have C1 := Lib.hid (fun w => iIsName_c nm w hn)
  have C2 := Lib.hid (fun w => iInRange_c ver 0 7 w)
  unfold validRec
  generalize isName nm = I at *
  generalize (decide (0 ≤ ver) && decide (ver ≤ 7)) = R at *
  have B := fun w' (e : Ext (w.alloc (.cells #[.int .i64 k, .string nm, .int .i64 ver, .slice A l.length c] 138)) w') => boxed e
  have eb := Ext_alloc (.cells #[.int .i64 k, .string nm, .int .i64 ver, .slice A l.length c] 138) (Ext.refl w)
  unfold vrec
  cases I
  · go_enter Try.func175, Try.ntmps175
    go_wp2_with (first
      | (go_at_call 149; refine (C1.out _).mono ?_; rintro _ w1 ⟨rfl, he1⟩))
    go_ret
    exact ⟨ret_bool (by simp), eb.trans he1⟩
  cases R
  · go_enter Try.func175, Try.ntmps175
    go_wp2_with (first
      | (go_at_call 149; refine (C1.out _).mono ?_; rintro _ w1 ⟨rfl, he1⟩)
      | (go_at_call 109; refine (C2.out _).mono ?_; rintro _ w2 ⟨rfl, he2⟩; have he2 := he1.trans he2))
    go_ret
    exact ⟨ret_bool (by simp), eb.trans he2⟩
  by_cases hL : l.length ≤ 400
  · have HL : Hid (decide (l.length ≤ 400) = true) := by show _ = _; simp [hL]
    cases h1 : (k == 1) <;> cases h2 : (k == 2) <;> cases h3 : (ver == 0)
    all_goals first
      | (exfalso; have h1 := beq_iff_eq.1 h1; have h2 := beq_iff_eq.1 h2; omega)
      | (go_enter Try.func175, Try.ntmps175
         go_wp2_with (first
           | (go_at_call 149; refine (C1.out _).mono ?_; rintro _ w1 ⟨rfl, he1⟩)
           | (go_at_call 109; refine (C2.out _).mono ?_; rintro _ w2 ⟨rfl, he2⟩; have he2 := he1.trans he2))
         go_ret
         exact ⟨ret_bool (by first | rfl | (rw [HL.out]; simp)), eb.trans he2⟩)
  · have HL : Hid (decide (l.length ≤ 400) = false) := by show _ = _; simp [hL]
    go_enter Try.func175, Try.ntmps175
    go_wp2_with (first
      | (go_at_call 149; refine (C1.out _).mono ?_; rintro _ w1 ⟨rfl, he1⟩)
      | (go_at_call 109; refine (C2.out _).mono ?_; rintro _ w2 ⟨rfl, he2⟩; have he2 := he1.trans he2))
    go_ret
    exact ⟨ret_bool (by first | rfl | (rw [HL.out]; simp)), eb.trans he2⟩
set_option maxRecDepth 100000 in
set_option maxHeartbeats 4000000 in
theorem sIsValidRecord_c (k : Int) (nm : ByteArray) (ver : Int) (A : Option Addr) (l : List UInt8) (c : Nat) (w : World) (hl : l.length ≤ 140737488351232) (hn : nm.size ≤ 9223372036854775807) :
    Gives Try.prog 180 #[vrec k nm ver (.slice A l.length c)] w (.bool (validRec k nm ver l.length)) := by
  have C1 := Lib.hid (fun w => sIsName_c nm w hn)
  have C2 := Lib.hid (fun w => l1In_c ver 0 7 w)
  have C3 := Lib.hid (fun w => l1In_c k 1 2 w)
  have hk12 : (decide (1 ≤ k) && decide (k ≤ 2)) = (k == 1 || k == 2) := by rw [Bool.eq_iff_iff]; simp; omega
  rw [hk12] at C3
  clear hk12
  unfold validRec
  generalize isName nm = I at *
  generalize (decide (0 ≤ ver) && decide (ver ≤ 7)) = R at *
  have B := fun w' (e : Ext (w.alloc (.cells #[.int .i64 k, .string nm, .int .i64 ver, .slice A l.length c] 138)) w') => boxed e
  have eb := Ext_alloc (.cells #[.int .i64 k, .string nm, .int .i64 ver, .slice A l.length c] 138) (Ext.refl w)
  unfold vrec
  cases h1 : (k == 1) <;> cases h2 : (k == 2)
  case false.false =>
    rw [h1, h2] at C3
    simp only [Bool.or_false] at C3
    go_enter Try.func180, Try.ntmps180
    go_wp2_with (first
      | (go_at_call_of 104 (Value.int .i64 k); refine (C3.out _).mono ?_; rintro _ w3 ⟨rfl, he3⟩))
    go_ret
    exact ⟨ret_bool (by simp), eb.trans he3⟩
  case true.true => exact absurd (beq_iff_eq.1 h1) (by have := beq_iff_eq.1 h2; omega)
  all_goals
    rw [h1, h2] at C3
    simp only [Bool.or_false, Bool.or_true] at C3
    cases I
    · go_enter Try.func180, Try.ntmps180
      go_wp2_with (first
        | (go_at_call_of 104 (Value.int .i64 k); refine (C3.out _).mono ?_; rintro _ w3 ⟨rfl, he3⟩)
        | (go_at_call 141; refine (C1.out _).mono ?_; rintro _ w1 ⟨rfl, he1⟩; have he1 := he3.trans he1))
      go_ret
      exact ⟨ret_bool (by simp), eb.trans he1⟩
    cases R
    · go_enter Try.func180, Try.ntmps180
      go_wp2_with (first
        | (go_at_call_of 104 (Value.int .i64 k); refine (C3.out _).mono ?_; rintro _ w3 ⟨rfl, he3⟩)
        | (go_at_call 141; refine (C1.out _).mono ?_; rintro _ w1 ⟨rfl, he1⟩; have he1 := he3.trans he1)
        | (go_at_call_of 104 (Value.int .i64 ver); refine (C2.out _).mono ?_; rintro _ w2 ⟨rfl, he2⟩; have he2 := he1.trans he2))
      go_ret
      exact ⟨ret_bool (by simp), eb.trans he2⟩
    by_cases hL : l.length ≤ 400
    · have HL : Hid (decide (l.length ≤ 400) = true) := by show _ = _; simp [hL]
      cases h3 : (ver == 0)
      all_goals
        go_enter Try.func180, Try.ntmps180
        go_wp2_with (first
          | (go_at_call_of 104 (Value.int .i64 k); refine (C3.out _).mono ?_; rintro _ w3 ⟨rfl, he3⟩)
          | (go_at_call 141; refine (C1.out _).mono ?_; rintro _ w1 ⟨rfl, he1⟩; have he1 := he3.trans he1)
          | (go_at_call_of 104 (Value.int .i64 ver); refine (C2.out _).mono ?_; rintro _ w2 ⟨rfl, he2⟩; have he2 := he1.trans he2))
        go_ret
        exact ⟨ret_bool (by first | rfl | (rw [HL.out]; simp)), eb.trans he2⟩
    · have HL : Hid (decide (l.length ≤ 400) = false) := by show _ = _; simp [hL]
      go_enter Try.func180, Try.ntmps180
      go_wp2_with (first
        | (go_at_call_of 104 (Value.int .i64 k); refine (C3.out _).mono ?_; rintro _ w3 ⟨rfl, he3⟩)
        | (go_at_call 141; refine (C1.out _).mono ?_; rintro _ w1 ⟨rfl, he1⟩; have he1 := he3.trans he1)
        | (go_at_call_of 104 (Value.int .i64 ver); refine (C2.out _).mono ?_; rintro _ w2 ⟨rfl, he2⟩; have he2 := he1.trans he2))
      go_ret
      exact ⟨ret_bool (by first | rfl | (rw [HL.out]; simp)), eb.trans he2⟩
end Go.Proofs.Ytlaejcacembjiaa

/- Plain laws of the encoding of records: no program in sight. -/
namespace Go.Proofs.Ytlaejcacembjiaa

/-- the two bytes of a number, the greater first -/
def be2 (n : Nat) : List UInt8 := [UInt8.ofNat (n / 256), UInt8.ofNat n]
/-- the encoding ahead of its last byte -/
def encBody (k : Int) (nm : ByteArray) (ver : Int) (l : List UInt8) : List UInt8 :=
  [UInt8.ofNat k.toNat, UInt8.ofNat nm.size] ++ nm.data.toList ++ [UInt8.ofNat ver.toNat] ++ be2 (pack l).length ++ pack l
def encRec (k : Int) (nm : ByteArray) (ver : Int) (l : List UInt8) : List UInt8 :=
  if validRec k nm ver l.length then encBody k nm ver l ++ [UInt8.ofNat (sumB (encBody k nm ver l))] else []
theorem validRec_facts {k : Int} {nm : ByteArray} {ver : Int} {n : Nat} (h : validRec k nm ver n = true) : 1 ≤ k ∧ k ≤ 2 ∧ 0 ≤ ver ∧ ver ≤ 7 ∧ n ≤ 400 ∧ nm.size ≤ 12 := by
  unfold validRec isName at h; simp at h; omega
theorem encBody_length (k : Int) (nm : ByteArray) (ver : Int) (l : List UInt8) : (encBody k nm ver l).length = nm.size + 5 + (pack l).length := by
  have : nm.data.toList.length = nm.size := by simp
  unfold encBody be2; simp only [List.length_append, List.length_cons, List.length_nil, this]; omega
theorem encRec_length {k : Int} {nm : ByteArray} {ver : Int} {l : List UInt8} (h : validRec k nm ver l.length = true) : (encRec k nm ver l).length = nm.size + 6 + (pack l).length := by
  unfold encRec; rw [if_pos h, List.length_append, encBody_length]; simp; omega
theorem encRec_no {k : Int} {nm : ByteArray} {ver : Int} {l : List UInt8} (h : validRec k nm ver l.length = false) : encRec k nm ver l = [] := by
  unfold encRec; rw [h]; rfl
theorem encRec_le (k : Int) (nm : ByteArray) (ver : Int) (l : List UInt8) : (encRec k nm ver l).length ≤ 818 := by
  cases h : validRec k nm ver l.length
  · rw [encRec_no h]; simp
  · rw [encRec_length h]
    have := validRec_facts h; have := pack_le l; omega

/-- what a record holds -/
structure DRec where
  k : Int
  nm : ByteArray
  ver : Int
  l : List UInt8
def DRec.zero : DRec := ⟨0, ⟨#[]⟩, 0, []⟩
def DRec.enc (r : DRec) : List UInt8 := encRec r.k r.nm r.ver r.l
def DRec.ok (r : DRec) : Bool := validRec r.k r.nm r.ver r.l.length

/-- the length of the name, the length of the packed bytes of a record that begins at an index -/
def nmAt (b : List UInt8) (a : Nat) : Nat := (b.getD (a+1) 0).toNat
def szAt (b : List UInt8) (a : Nat) : Nat := 256 * (b.getD (a + nmAt b a + 3) 0).toNat + (b.getD (a + nmAt b a + 4) 0).toNat
/-- the record's fields over its unpacked bytes -/
def recAt (b : List UInt8) (a : Nat) (d : List UInt8) : DRec :=
  ⟨(b.getD a 0).toNat, ⟨((b.drop (a+2)).take (nmAt b a)).toArray⟩, (b.getD (a + nmAt b a + 2) 0).toNat, d⟩
/-- the record that begins at an index -/
def decN (b : List UInt8) (a : Nat) : Option DRec :=
  if b.length < a + 2 ∨ b.length < a + nmAt b a + 6 ∨ b.length < a + nmAt b a + 6 + szAt b a then none
  else match unpack ((b.drop (a + nmAt b a + 5)).take (szAt b a)) with
    | none => none
    | some d => if (recAt b a d).ok && ((recAt b a d).enc == (b.drop a).take (nmAt b a + 6 + szAt b a)) then some (recAt b a d) else none
def dec (b : List UInt8) (a : Int) : Option DRec := if a < 0 then none else decN b a.toNat
/-- the index behind the record -/
def decEnd (b : List UInt8) (a : Int) : Int := if (dec b a).isSome then a + nmAt b a.toNat + 6 + szAt b a.toNat else a

theorem unpack_nil : unpack [] = some [] := rfl
/-- bytes that cannot be unpacked: no record with the same name and no data has this encoding -/
theorem dec_bad {b : List UInt8} {a : Nat} (h : a + nmAt b a + 6 + szAt b a ≤ b.length) (hu : unpack ((b.drop (a + nmAt b a + 5)).take (szAt b a)) = none) :
    ((recAt b a []).ok && ((recAt b a []).enc == (b.drop a).take (nmAt b a + 6 + szAt b a))) = false := by
  cases hv : (recAt b a []).ok
  · rfl
  · simp only [Bool.true_and, beq_eq_false_iff_ne]
    intro he
    have h1 := congrArg List.length he
    have h2 : (recAt b a []).enc.length = _ := encRec_length hv
    rw [h2] at h1
    have h3 : (recAt b a []).nm.size = nmAt b a := by
      show ((b.drop (a+2)).take (nmAt b a)).toArray.size = _
      simp; omega
    rw [h3] at h1
    have h4 : (pack (recAt b a []).l).length = 0 := rfl
    rw [h4, List.length_take, List.length_drop] at h1
    have h5 : szAt b a = 0 := by omega
    rw [h5, List.take_zero, unpack_nil] at hu
    cases hu
/-- the reference's reading: the unpacked bytes, or none -/
theorem decN_spec {b : List UInt8} {a : Nat} (h : a + nmAt b a + 6 + szAt b a ≤ b.length) :
    decN b a = if (recAt b a ((unpack ((b.drop (a + nmAt b a + 5)).take (szAt b a))).getD [])).ok && ((recAt b a ((unpack ((b.drop (a + nmAt b a + 5)).take (szAt b a))).getD [])).enc == (b.drop a).take (nmAt b a + 6 + szAt b a)) then some (recAt b a ((unpack ((b.drop (a + nmAt b a + 5)).take (szAt b a))).getD [])) else none := by
  unfold decN
  rw [if_neg (by omega)]
  cases hu : unpack ((b.drop (a + nmAt b a + 5)).take (szAt b a)) with
  | none => rw [Option.getD_none, dec_bad h hu]; rfl
  | some d => rfl
theorem decN_some {b : List UInt8} {a : Nat} {r : DRec} (h : decN b a = some r) : a + nmAt b a + 6 + szAt b a ≤ b.length ∧ r.ok = true ∧ r.enc = (b.drop a).take (nmAt b a + 6 + szAt b a) ∧ unpack ((b.drop (a + nmAt b a + 5)).take (szAt b a)) = some r.l ∧ r = recAt b a r.l := by
  unfold decN at h
  split at h
  · cases h
  · rename_i hc
    split at h
    · cases h
    · rename_i d hd
      split at h
      · rename_i hb
        injection h with h
        subst h
        rw [Bool.and_eq_true, beq_iff_eq] at hb
        exact ⟨by omega, hb.1, hb.2, hd, rfl⟩
      · cases h
end Go.Proofs.Ytlaejcacembjiaa

/- PackBytes and PackedSize of the program and of the reference. -/
namespace Go.Proofs.Ytlaejcacembjiaa
open Go.RowKit Go.Sort

theorem get_some {l : List UInt8} {i : Nat} (h : i < l.length) : l[i]? = some l[i] := List.getElem?_eq_getElem h
set_option maxRecDepth 100000 in
set_option maxHeartbeats 1000000 in
theorem iStartsRun_c (A : Option Addr) (l : List UInt8) (c : Nat) (a : Nat) (w : World) (h : Bs w A l c) (ha : a ≤ l.length) :
    Gives Try.prog 188 #[.slice A l.length c, .int .i64 a] w (.bool (decide (3 ≤ runAt l a))) := by
  have hl := h.len
  by_cases h2 : a + 2 < l.length
  · obtain ⟨b, off, rfl, hb, hcs⟩ := h.base (by omega)
    have hc0 := fun w' e => hcs w' e a (by omega)
    have hc1 := fun w' e => hcs w' e (a+1) (by omega)
    have hc2 := fun w' e => hcs w' e (a+2) (by omega)
    have hd : decide ((a : Int) + 2 < (l.length : Int)) = true := by simp; omega
    have hr : Hid (decide (3 ≤ runAt l a) = ((l[a].toNat : Int) == (l[a+1].toNat : Int) && ((l[a].toNat : Int) == (l[a+2].toNat : Int)))) := by
      show _ = _
      have e1 : (l[a].toNat : Int) = (l[a+1].toNat : Int) ↔ l[a] = l[a+1] := ⟨fun e => u8_inj e, fun e => by rw [e]⟩
      have e2 : (l[a].toNat : Int) = (l[a+2].toNat : Int) ↔ l[a] = l[a+2] := ⟨fun e => u8_inj e, fun e => by rw [e]⟩
      rw [Bool.eq_iff_iff]
      simp only [decide_eq_true_eq, Bool.and_eq_true, beq_iff_eq, e1, e2, run3, get_some (show a < l.length by omega), get_some (show a + 1 < l.length by omega), get_some h2, Option.some.injEq, h2, true_and]
    clear hcs
    cases d1 : ((l[a].toNat : Int) == (l[a+1].toNat : Int))
    all_goals
      go_enter Try.func188, Try.ntmps188
      go_wp2
      refine wp_region_quiet_below (by kernel_rfl) (by kernel_rfl) ?_
      repeat (go_big_quiet_step (fail))
      refine wpQuiet_nil ?_
      rintro _ ⟨⟨nq, osq⟩, rfl⟩
      go_wp2
      go_ret
      exact ⟨ret_bool (by rw [hr.out, d1]; simp), Ext_regrown _ _ (Ext.refl w)⟩
  · have hd : decide ((a : Int) + 2 < (l.length : Int)) = false := by simp; omega
    have hr : Hid (decide (3 ≤ runAt l a) = false) := by
      show _ = _
      rw [decide_eq_false_iff_not, run3]; omega
    go_enter Try.func188, Try.ntmps188
    go_wp2
    refine wp_region_quiet_below (by kernel_rfl) (by kernel_rfl) ?_
    repeat (go_big_quiet_step (fail))
    refine wpQuiet_nil ?_
    rintro _ ⟨⟨nq, osq⟩, rfl⟩
    go_wp2
    go_ret
    exact ⟨ret_bool hr.out.symm, Ext_regrown _ _ (Ext.refl w)⟩

theorem vu8_ofNat {n : Nat} (h : n < 256) : vu8 (UInt8.ofNat n) = .int .u8 (n : Int) := by
  have : (UInt8.ofNat n).toNat = n := by simp; omega
  simp only [vu8, this]
theorem wrapByte {n : Nat} (h : n < 256) : Value.int .u8 (IntKind.u8.wrap (n : Int)) = vu8 (UInt8.ofNat n) := by
  have : (UInt8.ofNat n).toNat = n := by simp; omega
  simp only [vu8, this]
  congr 1
  unfold IntKind.wrap
  simp [IntKind.bits, IntKind.signed]
  omega

set_option maxRecDepth 100000 in
set_option maxHeartbeats 2000000 in
theorem iPackBytes_c (A : Option Addr) (l : List UInt8) (c : Nat) (w : World) (h : Bs w A l c) (hL : l.length ≤ 1073741824) :
    Calls Try.prog 185 #[.slice A l.length c] w fun e w' => ∃ v, e = .returned v ∧ OwnL vu8 5 w w' v (pack l) ∧ Ext w w' := by
  have hl := h.len
  have hcap := h.cap
  go_enter Try.func185, Try.ntmps185
  go_wp2
  go_loopw [3, 4] (fun t i wr => ∃ (a : Nat) (out : List UInt8), a ≤ l.length ∧ i = .int .i64 a ∧ OwnL vu8 5 w wr t out ∧ Hid (out ++ packAt l a = pack l) ∧ Ext w wr) (fun _ i _ => l.length - (intOf i).toNat)
  case atStart => exact ⟨0, [], by omega, rfl, OwnL.empty (Ext.refl _), by simp [Hid, pack], Ext_alloc _ (Ext.refl _)⟩
  case round =>
    obtain ⟨a, out, ha, rfl, ho, hs, he⟩ := hrel
    have hout : out.length ≤ 2 * l.length := by have h1 := congrArg List.length hs.out; have h2 := pack_le l; rw [List.length_append] at h1; omega
    by_cases hlt : a < l.length
    · obtain ⟨b, off, rfl, hb, hcs⟩ := h.base (by omega)
      obtain ⟨r1, r2, _⟩ := runAt_spec l a hlt
      by_cases hr : 3 ≤ runAt l a
      · have hc := fun w' e => hcs w' e a hlt
        have hd : decide (3 ≤ runAt l a) = true := by simp [hr]
        have HD := Lib.hid hd; clear hd
        have HS : Hid (out ++ [UInt8.ofNat (128 + min (runAt l a) 127), l[a]] ++ packAt l (a + min (runAt l a) 127) = pack l) := by
          have := hs.out; rw [packAt_run hlt hr] at this; show _ = _; rw [← this]; simp
        have HM : Hid ((if (127 : Int) < (runAt l a : Int) then 127 else (runAt l a : Int)) = ((min (runAt l a) 127 : Nat) : Int)) := by
          show _ = _; split <;> omega
        generalize hM : min (runAt l a) 127 = M at *
        have hM1 : 3 ≤ M := by omega
        have hM2 : M ≤ 127 := by omega
        have hM3 : a + M ≤ l.length := by omega
        clear hM hs hcs
        have HCS : Hid (#[Value.int .u8 (128 + (M : Int)), Value.int .u8 (l[a].toNat : Int)] = ([UInt8.ofNat (128 + M), l[a]].map vu8).toArray) := by
          show _ = _
          simp only [List.map_cons, List.map_nil, vu8_ofNat (n := 128 + M) (by omega)]
          simp [vu8]
        have HB : Hid ((out.length + [UInt8.ofNat (128 + M), l[a]].length) * 1 ≤ 140737488355328) := by show _ ≤ _; simp only [List.length_cons, List.length_nil]; omega
        go_wp2_with fail
        refine (iStartsRun_c _ l c a _ (h.ext he) ha).mono ?_; rintro _ w1 ⟨rfl, he1⟩; rw [HD.out]
        go_wp2_with fail
        refine (iRunAt_c _ l c a _ ((h.ext he).ext he1)).mono ?_; rintro _ w2 ⟨rfl, he2⟩
        go_wp2_with fail
        refine (iMin_c _ _ _).mono ?_; rintro _ w3 ⟨rfl, he3⟩; rw [HM.out]
        have e3 := (he1.trans he2).trans he3
        have ho3 := ho.ext e3; have eb := he.trans e3
        clear he1 he2 he3 e3 ho he
        go_wp2_with (first
          | (at_builtin; go_must (refine wpList_appN rfl (.tmp 19) (.tmp 27) _ rfl E_u8 (by omega) w _ vu8 (fun _ => rfl) _ rfl _ _ rfl out [UInt8.ofNat (128 + M), l[a]] _ HCS.out ho3 eb rfl HB.out ?_); intro v4 w4 ho4 he4))
        go_roundw
        case rel => exact ⟨a + M, out ++ [UInt8.ofNat (128 + M), l[a]], by omega, by go_num, ho4, HS, he4⟩
        case measure => simp [intOf]; omega
      · have hd : decide (3 ≤ runAt l a) = false := by simp; omega
        have HD := Lib.hid hd; clear hd
        have HS : Hid (out ++ UInt8.ofNat (litEnd l a (a+1) - a) :: ((l.drop a).take (litEnd l a (a+1) - a) ++ packAt l (litEnd l a (a+1))) = pack l) := by
          have := hs.out; rw [packAt_lit hlt hr, litEnd_gt hlt (by omega)] at this; exact this
        have hE1 := litEnd_ge l a (a+1)
        have hE2 := (litEnd_le (l := l) (a := a) (k := a+1) (by omega) (by omega)).1
        have hE3 := (litEnd_le (l := l) (a := a) (k := a+1) (by omega) (by omega)).2
        generalize hE : litEnd l a (a+1) = E at *
        have HE := Lib.hid hE; clear hE hs
        go_wp2_with fail
        refine (iStartsRun_c _ l c a _ (h.ext he) ha).mono ?_; rintro _ w1 ⟨rfl, he1⟩; rw [HD.out]
        have ho1 := ho.ext he1; have eb := he.trans he1
        clear ho he he1
        go_wp2
        go_loopw [6] (fun i wq => ∃ k : Nat, a + 1 ≤ k ∧ k ≤ l.length ∧ k - a ≤ 127 ∧ i = .int .i64 k ∧ Hid (litEnd l a k = E) ∧ Ext w1 wq) (fun i _ => l.length - (intOf i).toNat)
        case atStart => exact ⟨a + 1, by omega, by omega, by omega, by go_num, HE, Ext.refl _⟩
        case round =>
          obtain ⟨k, hk1, hk2, hk3, rfl, hk, he⟩ := hrel
          by_cases hc : k < l.length ∧ k - a < 127 ∧ runAt l k < 3
          · obtain ⟨c1, c2, c3⟩ := hc
            have d1 : decide ((k : Int) < (l.length : Int)) = true := by simp; omega
            have d2 : decide ((k : Int) - (a : Int) < 127) = true := by simp; omega
            have d3 : decide (3 ≤ runAt l k) = false := by simp; omega
            have D3 := Lib.hid d3; clear d3
            have HK := Lib.hid ((litEnd_step ⟨c1, c2, c3⟩).symm.trans hk.out)
            go_wp2_with (go_at_call 188; refine (iStartsRun_c _ l c k _ ((h.ext eb).ext he) (by omega)).mono ?_; rintro _ w2 ⟨rfl, he2⟩; rw [D3.out])
            go_roundw
            case rel => exact ⟨k + 1, by omega, by omega, by omega, by go_num, HK, he.trans he2⟩
            case measure => simp [intOf]; omega
          · obtain rfl : k = E := (litEnd_stop hc).symm.trans hk.out
            clear hk HE
            have HCS : Hid (#[Value.int .u8 ((k : Int) - (a : Int))] = ([UInt8.ofNat (k - a)].map vu8).toArray) := by
              show _ = _
              simp only [List.map_cons, List.map_nil, vu8_ofNat (n := k - a) (by omega)]
              rw [show (((k - a : Nat) : Int)) = (k : Int) - (a : Int) by omega]
            have HB : Hid ((out.length + [UInt8.ofNat (k - a)].length) * 1 ≤ 140737488355328) := by show _ ≤ _; simp only [List.length_cons, List.length_nil]; omega
            have HL : Hid (k - a = ((l.drop a).take (k - a)).length) := by show _ = _; simp; omega
            have HB2 : Hid (((out ++ [UInt8.ofNat (k - a)]).length + ((l.drop a).take (k - a)).length) * 1 ≤ 140737488355328) := by show _ ≤ _; rw [← HL.out]; simp; omega
            have HS2 : Hid ((out ++ [UInt8.ofNat (k - a)]) ++ (l.drop a).take (k - a) ++ packAt l k = pack l) := by show _ = _; rw [← HS.out]; simp
            have HP := Lib.hid (fun w' e => part_cells (hcs w' e) a (k - a))
            clear hcs HS
            rcases (by omega : ¬ k < l.length ∨ (k < l.length ∧ ¬ k - a < 127) ∨ (k < l.length ∧ k - a < 127 ∧ ¬ runAt l k < 3)) with c1 | ⟨c1, c2⟩ | ⟨c1, c2, c3⟩
            · have d1 : decide (k < l.length) = false := by simp; omega
              clear c1 hc
              go_wp2_with (first
                | (go_at_call 188; go_must (refine (iStartsRun_c _ l c k _ ((h.ext eb).ext he) (by omega)).mono ?_); rintro _ w2 ⟨rfl, he2⟩; rw [D3.out]; have he := he.trans he2)
                | (at_builtin; refine wpList_appN rfl (.tmp 52) (.tmp 57) _ rfl E_u8 (by omega) w _ vu8 (fun _ => rfl) _ rfl _ _ rfl out [UInt8.ofNat (k - a)] _ HCS.out (ho1.ext (by assumption)) (eb.trans (by assumption)) rfl HB.out ?_; intro v4 w4 ho4 he4)
                | (at_builtin; refine wpList_appL rfl (.tmp 59) (.tmp 63) _ rfl E_u8 (by omega) w _ vu8 (fun _ => rfl) v4 rfl _ _ _ rfl (out ++ [UInt8.ofNat (k - a)]) ((l.drop a).take (k - a)) ho4 he4 HL.out (fun _ => ⟨_, rfl, HP.out _ he4⟩) HB2.out ?_; intro v5 w5 ho5 he5 _ _))
              go_roundw
              case rel => exact ⟨k, (out ++ [UInt8.ofNat (k - a)]) ++ (l.drop a).take (k - a), by omega, rfl, ho5, HS2, he5⟩
              case measure => simp [intOf]; omega
            · have d1 : decide ((k : Int) < (l.length : Int)) = true := by simp; omega
              have d2 : decide ((k : Int) - (a : Int) < 127) = false := by simp; omega
              clear hc
              go_wp2_with (first
                | (go_at_call 188; go_must (refine (iStartsRun_c _ l c k _ ((h.ext eb).ext he) (by omega)).mono ?_); rintro _ w2 ⟨rfl, he2⟩; rw [D3.out]; have he := he.trans he2)
                | (at_builtin; refine wpList_appN rfl (.tmp 52) (.tmp 57) _ rfl E_u8 (by omega) w _ vu8 (fun _ => rfl) _ rfl _ _ rfl out [UInt8.ofNat (k - a)] _ HCS.out (ho1.ext (by assumption)) (eb.trans (by assumption)) rfl HB.out ?_; intro v4 w4 ho4 he4)
                | (at_builtin; refine wpList_appL rfl (.tmp 59) (.tmp 63) _ rfl E_u8 (by omega) w _ vu8 (fun _ => rfl) v4 rfl _ _ _ rfl (out ++ [UInt8.ofNat (k - a)]) ((l.drop a).take (k - a)) ho4 he4 HL.out (fun _ => ⟨_, rfl, HP.out _ he4⟩) HB2.out ?_; intro v5 w5 ho5 he5 _ _))
              go_roundw
              case rel => exact ⟨k, (out ++ [UInt8.ofNat (k - a)]) ++ (l.drop a).take (k - a), by omega, rfl, ho5, HS2, he5⟩
              case measure => simp [intOf]; omega
            · have d1 : decide ((k : Int) < (l.length : Int)) = true := by simp; omega
              have d2 : decide ((k : Int) - (a : Int) < 127) = true := by simp; omega
              have d3 : decide (3 ≤ runAt l k) = true := by simp; omega
              have D3 := Lib.hid d3; clear d3
              clear hc
              go_wp2_with (first
                | (go_at_call 188; go_must (refine (iStartsRun_c _ l c k _ ((h.ext eb).ext he) (by omega)).mono ?_); rintro _ w2 ⟨rfl, he2⟩; rw [D3.out]; have he := he.trans he2)
                | (at_builtin; refine wpList_appN rfl (.tmp 52) (.tmp 57) _ rfl E_u8 (by omega) w _ vu8 (fun _ => rfl) _ rfl _ _ rfl out [UInt8.ofNat (k - a)] _ HCS.out (ho1.ext (by assumption)) (eb.trans (by assumption)) rfl HB.out ?_; intro v4 w4 ho4 he4)
                | (at_builtin; refine wpList_appL rfl (.tmp 59) (.tmp 63) _ rfl E_u8 (by omega) w _ vu8 (fun _ => rfl) v4 rfl _ _ _ rfl (out ++ [UInt8.ofNat (k - a)]) ((l.drop a).take (k - a)) ho4 he4 HL.out (fun _ => ⟨_, rfl, HP.out _ he4⟩) HB2.out ?_; intro v5 w5 ho5 he5 _ _))
              go_roundw
              case rel => exact ⟨k, (out ++ [UInt8.ofNat (k - a)]) ++ (l.drop a).take (k - a), by omega, rfl, ho5, HS2, he5⟩
              case measure => simp [intOf]; omega
    · go_wp2
      go_ret
      have := hs.out; rw [packAt_end (by omega)] at this
      exact ⟨_, rfl, by simpa [← this] using ho, he⟩

set_option maxRecDepth 100000 in
set_option maxHeartbeats 2000000 in
theorem sPackBytes_c (A : Option Addr) (l : List UInt8) (c : Nat) (w : World) (h : Bs w A l c) (hL : l.length ≤ 1073741824) :
    Calls Try.prog 181 #[.slice A l.length c] w fun e w' => ∃ v, e = .returned v ∧ OwnL vu8 5 w w' v (pack l) ∧ Ext w w' := by
  have hl := h.len
  have hcap := h.cap
  go_enter Try.func181, Try.ntmps181
  go_wp2
  go_loopw [3, 4] (fun t i wr => ∃ (a : Nat) (out : List UInt8), a ≤ l.length ∧ i = .int .i64 a ∧ OwnL vu8 5 w wr t out ∧ Hid (out ++ packAt l a = pack l) ∧ Ext w wr) (fun _ i _ => l.length - (intOf i).toNat)
  case atStart => exact ⟨0, [], by omega, rfl, OwnL.empty (Ext.refl _), by simp [Hid, pack], Ext_alloc _ (Ext.refl _)⟩
  case round =>
    obtain ⟨a, out, ha, rfl, ho, hs, he⟩ := hrel
    have hout : out.length ≤ 2 * l.length := by have h1 := congrArg List.length hs.out; have h2 := pack_le l; rw [List.length_append] at h1; omega
    by_cases hlt : a < l.length
    · obtain ⟨b, off, rfl, hb, hcs⟩ := h.base (by omega)
      obtain ⟨r1, r2, _⟩ := runAt_spec l a hlt
      by_cases hr : 3 ≤ runAt l a
      · have hc := fun w' e => hcs w' e a hlt
        have hw : (Lit.int .i64 (a : Int)).wf = true := WalkArith.wf_i64 (by omega)
        have HS : Hid (out ++ [UInt8.ofNat (128 + min (runAt l a) 127), l[a]] ++ packAt l (a + min (runAt l a) 127) = pack l) := by
          have := hs.out; rw [packAt_run hlt hr] at this; show _ = _; rw [← this]; simp
        have HM : Hid ((if (127 : Int) < (runAt l a : Int) then 127 else (runAt l a : Int)) = ((min (runAt l a) 127 : Nat) : Int)) := by
          show _ = _; split <;> omega
        generalize hM : min (runAt l a) 127 = M at *
        have hM1 : 3 ≤ M := by omega
        have hM2 : M ≤ 127 := by omega
        have hM3 : a + M ≤ l.length := by omega
        clear hM hs hcs
        have HCS : Hid (#[Value.int .u8 (128 + (M : Int)), Value.int .u8 (l[a].toNat : Int)] = ([UInt8.ofNat (128 + M), l[a]].map vu8).toArray) := by
          show _ = _
          simp only [List.map_cons, List.map_nil, vu8_ofNat (n := 128 + M) (by omega)]
          simp [vu8]
        have HB : Hid ((out.length + [UInt8.ofNat (128 + M), l[a]].length) * 1 ≤ 140737488355328) := by show _ ≤ _; simp only [List.length_cons, List.length_nil]; omega
        go_wp2_with fail
        refine (sRunAt_c _ l c a _ (h.ext he) hw).mono ?_; rintro _ w2 ⟨rfl, he2⟩
        go_wp2_with fail
        refine (sMin_c _ _ _).mono ?_; rintro _ w3 ⟨rfl, he3⟩; rw [HM.out]
        have e3 := he2.trans he3
        have ho3 := ho.ext e3; have eb := he.trans e3
        clear he2 he3 e3 ho he
        go_wp2_with (first
          | (at_builtin; go_must (refine wpList_appN rfl (.tmp 18) (.tmp 26) _ rfl E_u8 (by omega) w _ vu8 (fun _ => rfl) _ rfl _ _ rfl out [UInt8.ofNat (128 + M), l[a]] _ HCS.out ho3 eb rfl HB.out ?_); intro v4 w4 ho4 he4))
        go_roundw
        case rel => exact ⟨a + M, out ++ [UInt8.ofNat (128 + M), l[a]], by omega, by go_num, ho4, HS, he4⟩
        case measure => simp [intOf]; omega
      · have hw : (Lit.int .i64 (a : Int)).wf = true := WalkArith.wf_i64 (by omega)
        have HM : Hid ((if (127 : Int) < (runAt l a : Int) then 127 else (runAt l a : Int)) = (runAt l a : Int)) := by
          show _ = _; split <;> omega
        have HS : Hid (out ++ UInt8.ofNat (litEnd l a (a+1) - a) :: ((l.drop a).take (litEnd l a (a+1) - a) ++ packAt l (litEnd l a (a+1))) = pack l) := by
          have := hs.out; rw [packAt_lit hlt hr, litEnd_gt hlt (by omega)] at this; exact this
        have hE1 := litEnd_ge l a (a+1)
        have hE2 := (litEnd_le (l := l) (a := a) (k := a+1) (by omega) (by omega)).1
        have hE3 := (litEnd_le (l := l) (a := a) (k := a+1) (by omega) (by omega)).2
        generalize hE : litEnd l a (a+1) = E at *
        have HE := Lib.hid hE; clear hE hs
        have HE0 : Hid (litEnd l a a = E) := (litEnd_gt hlt (by omega)).trans HE.out
        go_wp2_with fail
        refine (sRunAt_c _ l c a _ (h.ext he) hw).mono ?_; rintro _ w2 ⟨rfl, he2⟩
        go_wp2_with fail
        refine (sMin_c _ _ _).mono ?_; rintro _ w1 ⟨rfl, he3⟩; rw [HM.out]
        have ho1 := (ho.ext he2).ext he3; have eb := (he.trans he2).trans he3
        have hr2 : (runAt l a : Int) < 3 := by omega
        clear ho he he2 he3
        go_wp2
        go_loopw [6] (fun i wq => ∃ k : Nat, a ≤ k ∧ k ≤ l.length ∧ k - a ≤ 127 ∧ i = .int .i64 k ∧ Hid (litEnd l a k = E) ∧ Ext w1 wq) (fun i _ => l.length - (intOf i).toNat)
        case atStart => exact ⟨a, by omega, by omega, by omega, rfl, HE0, Ext.refl _⟩
        case round =>
          obtain ⟨k, hk1, hk2, hk3, rfl, hk, he⟩ := hrel
          by_cases hc : k < l.length ∧ k - a < 127 ∧ runAt l k < 3
          · obtain ⟨c1, c2, c3⟩ := hc
            have d1 : decide ((k : Int) < (l.length : Int)) = true := by simp; omega
            have d2 : decide ((k : Int) - (a : Int) < 127) = true := by simp; omega
            have d3 : (runAt l k : Int) < 3 := by omega
            have hwk : (Lit.int .i64 (k : Int)).wf = true := WalkArith.wf_i64 (by omega)
            have HK := Lib.hid ((litEnd_step ⟨c1, c2, c3⟩).symm.trans hk.out)
            go_wp2_with (go_at_call 187; refine (sRunAt_c _ l c k _ ((h.ext eb).ext he) hwk).mono ?_; rintro _ w2 ⟨rfl, he2⟩)
            go_roundw
            case rel => exact ⟨k + 1, by omega, by omega, by omega, by go_num, HK, he.trans he2⟩
            case measure => simp [intOf]; omega
          · obtain rfl : k = E := (litEnd_stop hc).symm.trans hk.out
            clear hk HE HE0
            have HCS : Hid (#[Value.int .u8 (IntKind.u8.wrap (IntKind.i64.wrap ((k : Int) - (a : Int))))] = ([UInt8.ofNat (k - a)].map vu8).toArray) := by
              show _ = _
              rw [IntWalk.i64_in _ (by omega), show (k : Int) - (a : Int) = ((k - a : Nat) : Int) by omega, wrapByte (by omega)]
              rfl
            have HB : Hid ((out.length + [UInt8.ofNat (k - a)].length) * 1 ≤ 140737488355328) := by show _ ≤ _; simp only [List.length_cons, List.length_nil]; omega
            have HL : Hid (k - a = ((l.drop a).take (k - a)).length) := by show _ = _; simp; omega
            have HB2 : Hid (((out ++ [UInt8.ofNat (k - a)]).length + ((l.drop a).take (k - a)).length) * 1 ≤ 140737488355328) := by show _ ≤ _; rw [← HL.out]; simp; omega
            have HS2 : Hid ((out ++ [UInt8.ofNat (k - a)]) ++ (l.drop a).take (k - a) ++ packAt l k = pack l) := by show _ = _; rw [← HS.out]; simp
            have HP := Lib.hid (fun w' e => part_cells (hcs w' e) a (k - a))
            clear hcs HS
            rcases (by omega : ¬ k < l.length ∨ (k < l.length ∧ ¬ k - a < 127) ∨ (k < l.length ∧ k - a < 127 ∧ ¬ runAt l k < 3)) with c1 | ⟨c1, c2⟩ | ⟨c1, c2, c3⟩
            · have d1 : decide (k < l.length) = false := by simp; omega
              clear c1 hc
              go_wp2_with (first
                | (go_at_call 187; go_must (refine (sRunAt_c _ l c k _ ((h.ext eb).ext he) hwk).mono ?_); rintro _ w2 ⟨rfl, he2⟩; have he := he.trans he2))
              have hkc : k ≤ c := by omega
              have hca : ¬ c = a := by omega
              go_region_law (first
                | (refine step_appN rfl (.tmp 50) (.tmp 55) _ rfl E_u8 (by omega) w wr.drew _ vu8 (fun _ => rfl) _ rfl _ _ rfl out [UInt8.ofNat (k - a)] _ HCS.out rfl ((ho1.ext he).ext (Ext_drew (Ext.refl _))) (Ext_drew (eb.trans he)) rfl HB.out ?_; intro v4 w4 ho4 he4)
                | (refine step_appN rfl (.tmp 50) (.tmp 55) _ rfl E_u8 (by omega) w w2.drew _ vu8 (fun _ => rfl) _ rfl _ _ rfl out [UInt8.ofNat (k - a)] _ HCS.out rfl ((ho1.ext he).ext (Ext_drew (Ext.refl _))) (Ext_drew (eb.trans he)) rfl HB.out ?_; intro v4 w4 ho4 he4)
                | (refine step_appL rfl (.tmp 56) (.tmp 60) _ rfl E_u8 (by omega) w _ vu8 (fun _ => rfl) v4 rfl _ _ _ rfl (out ++ [UInt8.ofNat (k - a)]) ((l.drop a).take (k - a)) ho4 he4 HL.out (fun _ => ⟨_, rfl, HP.out _ he4⟩) HB2.out ?_; intro v5 w5 ho5 he5))
              go_wp2
              go_roundw
              case rel => exact ⟨k, (out ++ [UInt8.ofNat (k - a)]) ++ (l.drop a).take (k - a), by omega, rfl, ho5, HS2, he5⟩
              case measure => simp [intOf]; omega
            · have d1 : decide ((k : Int) < (l.length : Int)) = true := by simp; omega
              have d2 : decide ((k : Int) - (a : Int) < 127) = false := by simp; omega
              clear hc
              go_wp2_with (first
                | (go_at_call 187; go_must (refine (sRunAt_c _ l c k _ ((h.ext eb).ext he) hwk).mono ?_); rintro _ w2 ⟨rfl, he2⟩; have he := he.trans he2))
              have hkc : k ≤ c := by omega
              have hca : ¬ c = a := by omega
              go_region_law (first
                | (refine step_appN rfl (.tmp 50) (.tmp 55) _ rfl E_u8 (by omega) w wr.drew _ vu8 (fun _ => rfl) _ rfl _ _ rfl out [UInt8.ofNat (k - a)] _ HCS.out rfl ((ho1.ext he).ext (Ext_drew (Ext.refl _))) (Ext_drew (eb.trans he)) rfl HB.out ?_; intro v4 w4 ho4 he4)
                | (refine step_appN rfl (.tmp 50) (.tmp 55) _ rfl E_u8 (by omega) w w2.drew _ vu8 (fun _ => rfl) _ rfl _ _ rfl out [UInt8.ofNat (k - a)] _ HCS.out rfl ((ho1.ext he).ext (Ext_drew (Ext.refl _))) (Ext_drew (eb.trans he)) rfl HB.out ?_; intro v4 w4 ho4 he4)
                | (refine step_appL rfl (.tmp 56) (.tmp 60) _ rfl E_u8 (by omega) w _ vu8 (fun _ => rfl) v4 rfl _ _ _ rfl (out ++ [UInt8.ofNat (k - a)]) ((l.drop a).take (k - a)) ho4 he4 HL.out (fun _ => ⟨_, rfl, HP.out _ he4⟩) HB2.out ?_; intro v5 w5 ho5 he5))
              go_wp2
              go_roundw
              case rel => exact ⟨k, (out ++ [UInt8.ofNat (k - a)]) ++ (l.drop a).take (k - a), by omega, rfl, ho5, HS2, he5⟩
              case measure => simp [intOf]; omega
            · have d1 : decide ((k : Int) < (l.length : Int)) = true := by simp; omega
              have d2 : decide ((k : Int) - (a : Int) < 127) = true := by simp; omega
              have d3 : ¬ (runAt l k : Int) < 3 := by omega
              have hwk : (Lit.int .i64 (k : Int)).wf = true := WalkArith.wf_i64 (by omega)
              clear hc
              go_wp2_with (first
                | (go_at_call 187; go_must (refine (sRunAt_c _ l c k _ ((h.ext eb).ext he) hwk).mono ?_); rintro _ w2 ⟨rfl, he2⟩; have he := he.trans he2))
              have hkc : k ≤ c := by omega
              have hca : ¬ c = a := by omega
              go_region_law (first
                | (refine step_appN rfl (.tmp 50) (.tmp 55) _ rfl E_u8 (by omega) w wr.drew _ vu8 (fun _ => rfl) _ rfl _ _ rfl out [UInt8.ofNat (k - a)] _ HCS.out rfl ((ho1.ext he).ext (Ext_drew (Ext.refl _))) (Ext_drew (eb.trans he)) rfl HB.out ?_; intro v4 w4 ho4 he4)
                | (refine step_appN rfl (.tmp 50) (.tmp 55) _ rfl E_u8 (by omega) w w2.drew _ vu8 (fun _ => rfl) _ rfl _ _ rfl out [UInt8.ofNat (k - a)] _ HCS.out rfl ((ho1.ext he).ext (Ext_drew (Ext.refl _))) (Ext_drew (eb.trans he)) rfl HB.out ?_; intro v4 w4 ho4 he4)
                | (refine step_appL rfl (.tmp 56) (.tmp 60) _ rfl E_u8 (by omega) w _ vu8 (fun _ => rfl) v4 rfl _ _ _ rfl (out ++ [UInt8.ofNat (k - a)]) ((l.drop a).take (k - a)) ho4 he4 HL.out (fun _ => ⟨_, rfl, HP.out _ he4⟩) HB2.out ?_; intro v5 w5 ho5 he5))
              go_wp2
              go_roundw
              case rel => exact ⟨k, (out ++ [UInt8.ofNat (k - a)]) ++ (l.drop a).take (k - a), by omega, rfl, ho5, HS2, he5⟩
              case measure => simp [intOf]; omega
    · go_wp2
      go_ret
      have := hs.out; rw [packAt_end (by omega)] at this
      exact ⟨_, rfl, by simpa [← this] using ho, he⟩


end Go.Proofs.Ytlaejcacembjiaa

/- EncodeRecord of the program and of the reference; BigEndian of two bytes. -/
namespace Go.Proofs.Ytlaejcacembjiaa
open Go.RowKit Go.Sort

section
variable {P : Program} {ops : Array Oper} {rest : List Oper} {o : Oper} {a : Act} {Q : Exit → Act → World → Prop}
/-- append(s, str...) onto bytes of the call's own -/
theorem wpList_appS (hgd : o.guard = none) (s x : Operand) (t u : TypeId) (ho : o.op = .call { callee := .builtin .append, args := #[s, x], argTypes := #[t, u] })
    {e : TypeId} (hE : Elem P t e 1 1 (.int .u8 0)) (hu : P.underlying u = some .string) (w0 w : World) (v : Value) (hs : a.eval s = v) (st : ByteArray) (hx : a.eval x = .string st)
    (l : List UInt8) (hown : OwnL vu8 e w0 w v l) (he : Ext w0 w) (hb : l.length + st.size ≤ 140737488355328)
    (h : ∀ v' w', OwnL vu8 e w0 w' v' (l ++ st.data.toList) → Ext w0 w' → wpList P ops Q rest (a.put o.dst v') w') :
    wpList P ops Q (o :: rest) a w := by
  obtain ⟨i0, hi0, hz0, hz1, hz2⟩ := info_parts hE.hi
  refine Lib.wpList_append_own_string w hgd s x t u ho w0.heap.size e i0 hE.ht hu hi0 hz0 hz1 hz2 v l.length (l.map vu8) hs hown st hx (by simp only [maxLen]; omega) hb he.size ?_
  intro v' w' h1 h2 _
  refine h v' w' ?_ (he.grown h2 (fun k hk => (hown.lt k hk).1))
  have hsz : st.data.toList.length = st.size := by simp
  unfold OwnL
  rw [List.length_append, hsz, List.map_append]
  exact h1
/-- []byte(s) -/
theorem wpList_bytesOf (hgd : o.guard = none) (x : Operand) (src dst : TypeId) (ho : o.op = .convert src dst x) {e : TypeId} (hs : P.underlying src = some .string) (hd : P.underlying dst = some (.slice e)) (he : P.underlying e = some (.int .u8))
    (w : World) (st : ByteArray) (hx : a.eval x = .string st) (hsz : st.size ≤ 140737488351232)
    (h : ∀ c w', Bs w' (some ⟨w.heap.size, 0, none⟩) st.data.toList c → Ext w w' → wpList P ops Q rest (a.put o.dst (.slice (some ⟨w.heap.size, 0, none⟩) st.size c)) w') :
    wpList P ops Q (o :: rest) a w := by
  refine wpList_plain hgd fun K hK => ?_
  unfold Oper.wp execOp
  simp only [ho, hx, Sem.run_bind, Lib.run_convert_string_bytes w src dst e st hs hd he, Result.andThen_ok, Sem.run_pure]
  have hE : Ext w (Lib.bytesWorld w e st) := by
    refine ⟨rfl, rfl, rfl, by rw [Lib.bytesWorld_size]; omega, fun k hk => Lib.bytesWorld_at_old w e st k hk⟩
  have hsz' : st.data.toList.length = st.size := by simp
  refine hK _ _ (h _ _ ⟨⟨by rw [hsz']; exact grownCap_ge w _ _ _, by omega, fun hp => ⟨_, _, rfl, by rw [Lib.bytesWorld_size]; omega, fun w' e' i hi => ?_⟩⟩, by omega⟩ hE)
  have h1 := Lib.bytesWorld_cell w e st i (by omega)
  rw [e'.cell (by rw [Lib.bytesWorld_size]; show w.heap.size < _; omega)]
  rw [Nat.zero_add, h1]
  have hi' : i < st.data.size := by simpa using hi
  simp only [vu8, List.getD, Array.getElem?_toList, Array.getElem?_eq_getElem hi', Option.getD_some, Array.getElem_toList]
end

/-- the cells of a slice, as the laws on append ask for them -/
theorem Rd.src {α : Type} {f : α → Value} {w w' : World} {A : Option Addr} {l : List α} {c : Nat} (h : Rd f w A l c) (e : Ext w w') :
    0 < l.length → ∃ ad, A = some ad ∧ ∀ j u, (l.map f)[j]? = some u → w'.cell? (ad.add j) = some u := by
  intro hp
  obtain ⟨b, off, h1, _, h3⟩ := h.base hp
  refine ⟨_, h1, fun j u hu => ?_⟩
  have := part_cells (h3 w' e) 0 l.length j u (by simpa using hu)
  simpa using this
/-- a row of the call's own since a later world is one since an elder one -/
theorem OwnL.lower {α : Type} {f : α → Value} {e : TypeId} {w0 w1 w : World} {v : Value} {l : List α} (h : OwnL f e w1 w v l) (k : Ext w0 w1) : OwnL f e w0 w v l := World.ownsRow.lower h k.size

set_option maxHeartbeats 400000 in
theorem l2Power2_c (w : World) : Gives Try.prog 178 #[.int .i64 2] w (.int .i64 65536) := by
  go_enter Try.func178, Try.ntmps178
  go_wp2
  go_ret
  exact ⟨rfl, Ext.refl _⟩
set_option maxRecDepth 100000 in
set_option maxHeartbeats 1000000 in
theorem BigEndian2_c (n : Nat) (w : World) (hn : n ≤ 65535) :
    Calls Try.prog 182 #[.int .i64 n, .int .i64 2] w fun e w' => ∃ v, e = .returned v ∧ OwnL vu8 5 w w' v (be2 n) ∧ Ext w w' := by
  have hq : (decide ((0 : Int) ≤ (n : Int)) && decide ((n : Int) ≤ 65535)) = true := by simp; omega
  have HQ := Lib.hid hq; clear hq
  go_enter Try.func182, Try.ntmps182
  go_wp2_with (first
    | (go_at_call 178; refine (l2Power2_c _).mono ?_; rintro _ w2 ⟨rfl, he2⟩)
    | (go_at_call 104; refine (l1In_c _ _ _ _).mono ?_; rintro _ w1 ⟨rfl, he1⟩; try rw [HQ.out]))
  have he4 := (‹Ext (w.alloc (.cells #[] 5)) _›.trans he2).trans he1
  go_loopw [5, 6] (fun t i wr => ∃ k : Nat, k ≤ 2 ∧ i = .int .i64 (1 - k) ∧ OwnL vu8 5 w wr t ((be2 n).take k) ∧ Ext w wr) (fun _ i _ => (intOf i + 1).toNat)
  case atStart => exact ⟨0, by omega, rfl, (OwnL.empty (Ext.refl _)).ext he4, (Ext_alloc _ (Ext.refl _)).trans he4⟩
  case round =>
    clear he4 he1 he2
    obtain ⟨k, hk, rfl, ho, he⟩ := hrel
    have HB : ∀ x : UInt8, Hid ((((be2 n).take k).length + [x].length) * 1 ≤ 140737488355328) := by intro x; show _ ≤ _; have := List.length_take_le k (be2 n); simp at this ⊢; omega
    have H0 : Hid (#[Value.int .u8 ((n : Int) / 256)] = ([UInt8.ofNat (n / 256)].map vu8).toArray) := by
      show _ = _
      have : (UInt8.ofNat (n / 256)).toNat = n / 256 := by rw [UInt8.toNat_ofNat']; omega
      simp [vu8, this]
    have H1 : Hid (#[Value.int .u8 ((n : Int) % 256)] = ([UInt8.ofNat n].map vu8).toArray) := by
      show _ = _
      have : (UInt8.ofNat n).toNat = n % 256 := by rw [UInt8.toNat_ofNat']
      simp [vu8, this]
    rcases (by omega : k = 0 ∨ k = 1 ∨ k = 2) with rfl | rfl | rfl
    · go_wp2_with (first
        | (at_builtin; go_must (refine wpList_appN rfl (.tmp 26) (.tmp 32) _ rfl E_u8 (by omega) w _ vu8 (fun _ => rfl) _ rfl _ _ rfl ((be2 n).take 0) [UInt8.ofNat (n / 256)] _ H0.out ho he rfl (HB _).out ?_); intro v1 w1 ho1 he1))
      go_roundw
      case rel => exact ⟨1, by omega, rfl, ho1, he1⟩
      case measure => simp [intOf]
    · go_wp2_with (first
        | (at_builtin; go_must (refine wpList_appN rfl (.tmp 26) (.tmp 32) _ rfl E_u8 (by omega) w _ vu8 (fun _ => rfl) _ rfl _ _ rfl ((be2 n).take 1) [UInt8.ofNat n] _ H1.out ho he rfl (HB _).out ?_); intro v1 w1 ho1 he1))
      go_roundw
      case rel => exact ⟨2, by omega, rfl, ho1, he1⟩
      case measure => simp [intOf]
    · go_wp2
      go_ret
      exact ⟨_, rfl, ho, he⟩
end Go.Proofs.Ytlaejcacembjiaa

/- EncodeRecord of the program and of the reference. -/
namespace Go.Proofs.Ytlaejcacembjiaa
open Go.RowKit Go.Sort

/-- a row of a literal is the call's own -/
theorem OwnL.lit {α : Type} {f : α → Value} {e : TypeId} {w0 w : World} (he : Ext w0 w) (ys : List α) (cs : Array Value) (hcs : cs = (ys.map f).toArray) (m : Nat) (hm : m = ys.length) (hl : m ≤ 1000) :
    OwnL f e w0 (w.alloc (.cells cs e)) (.slice (some ⟨w.heap.size, 0, none⟩) m m) ys := by
  subst hcs; subst hm
  exact ⟨by simp, .inr ⟨w.heap.size, ys.length, _, rfl, he.size, heap_alloc_new w _, by omega, by simp only [maxLen]; omega, by simp, by simp [List.take_of_length_le]⟩⟩

set_option maxRecDepth 100000 in
set_option maxHeartbeats 2000000 in
theorem iEncodeRecord_c (k : Int) (nm : ByteArray) (ver : Int) (A : Option Addr) (l : List UInt8) (c : Nat) (w : World) (h : Bs w A l c) (hn : nm.size ≤ 9223372036854775807) :
    Calls Try.prog 177 #[vrec k nm ver (.slice A l.length c)] w fun e w' => ∃ v, e = .returned v ∧ OwnL vu8 5 w w' v (encRec k nm ver l) ∧ Ext w w' := by
  have C1 := Lib.hid (fun w => iIsValidRecord_c k nm ver A l c w h.len hn)
  have B := fun w' (e : Ext (w.alloc (.cells #[.int .i64 k, .string nm, .int .i64 ver, .slice A l.length c] 138)) w') => boxed e
  have eb := Ext_alloc (.cells #[.int .i64 k, .string nm, .int .i64 ver, .slice A l.length c] 138) (Ext.refl w)
  unfold encRec
  cases hv : validRec k nm ver l.length
  · rw [hv] at C1
    unfold vrec at C1 ⊢
    go_enter Try.func177, Try.ntmps177
    go_wp2_with (first
      | (go_at_call 175; refine (C1.out _).mono ?_; rintro _ w1 ⟨rfl, he1⟩))
    go_ret
    exact ⟨_, rfl, OwnL.empty (eb.trans he1), Ext_alloc _ (eb.trans he1)⟩
  · rw [hv] at C1
    have C2 := Lib.hid (fun w' (e : Ext w w') => iPackBytes_c A l c w' (h.ext e) (by have := validRec_facts hv; omega))
    have HPL : Hid ((pack l).length ≤ 140737488351232) := by
      have hf := validRec_facts hv
      have hp := pack_le l
      show _ ≤ _; omega
    have hpl : (pack l).length ≤ 800 := by
      have hf := validRec_facts hv
      have hp := pack_le l
      omega
    have hf := validRec_facts hv
    have H0 : Hid (#[Value.int .u8 (k % 256), Value.int .u8 ((nm.size : Int) % 256)] = ([UInt8.ofNat k.toNat, UInt8.ofNat nm.size].map vu8).toArray) := by
      show _ = _
      simp [vu8, UInt8.toNat_ofNat']; omega
    have H1 : Hid (#[Value.int .u8 (ver % 256), Value.int .u8 (((pack l).length : Int) / 256), Value.int .u8 (((pack l).length : Int) % 256)] = ([UInt8.ofNat ver.toNat, UInt8.ofNat ((pack l).length / 256), UInt8.ofNat (pack l).length].map vu8).toArray) := by
      show _ = _
      simp [vu8, UInt8.toNat_ofNat']; omega
    have HN : Hid (([UInt8.ofNat k.toNat, UInt8.ofNat nm.size].length + nm.size) ≤ 140737488355328) := by
      show _ ≤ _
      simp; omega
    have HE : Hid (([UInt8.ofNat k.toNat, UInt8.ofNat nm.size] ++ nm.data.toList) ++ [UInt8.ofNat ver.toNat, UInt8.ofNat ((pack l).length / 256), UInt8.ofNat (pack l).length] ++ pack l = encBody k nm ver l) := by
      show _ = _; unfold encBody be2; simp
    have HBL : Hid ((encBody k nm ver l).length = nm.size + 5 + (pack l).length) := encBody_length k nm ver l
    have HS : Hid (#[Value.int .u8 ((sumB (encBody k nm ver l) : Int) % 256)] = ([UInt8.ofNat (sumB (encBody k nm ver l))].map vu8).toArray) := by
      show _ = _
      simp [vu8, UInt8.toNat_ofNat']
    generalize hP : pack l = P at *
    have HP := Lib.hid hP; clear hP
    have HN1 : Hid (((([UInt8.ofNat k.toNat, UInt8.ofNat nm.size] ++ nm.data.toList).length + [UInt8.ofNat ver.toNat, UInt8.ofNat (P.length / 256), UInt8.ofNat P.length].length) * 1) ≤ 140737488355328) := by
      show _ ≤ _
      simp; omega
    have HN2 : Hid ((((([UInt8.ofNat k.toNat, UInt8.ofNat nm.size] ++ nm.data.toList) ++ [UInt8.ofNat ver.toNat, UInt8.ofNat (P.length / 256), UInt8.ofNat P.length]).length + P.length) * 1) ≤ 140737488355328) := by
      show _ ≤ _
      simp; omega
    have HN3 : Hid (((encBody k nm ver l).length + [UInt8.ofNat (sumB (encBody k nm ver l))].length) * 1 ≤ 140737488355328) := by
      show _ ≤ _
      rw [HBL.out]; simp; omega
    have HN4 : Hid ((encBody k nm ver l).length ≤ 1099511627776) := by
      show _ ≤ _
      rw [HBL.out]; omega
    generalize encBody k nm ver l = EB at *
    clear HBL hf
    unfold vrec at C1 ⊢
    go_enter Try.func177, Try.ntmps177
    go_wp2_with (first
      | (go_at_call 175; refine (C1.out _).mono ?_; rintro _ w1 ⟨rfl, he1⟩)
      | (go_at_call 185; refine (C2.out _ (eb.trans (by assumption))).mono ?_; rintro _ w2 ⟨v2, rfl, ho2, he2⟩; have he12 := he1.trans he2; obtain ⟨A2, c2, rfl, hr2⟩ := OwnL.rd ho2 HPL.out)
      | (at_builtin; refine wpList_appS rfl (.tmp 20) (.tmp 22) _ _ rfl E_u8 rfl w2 _ _ rfl nm rfl [UInt8.ofNat k.toNat, UInt8.ofNat nm.size] (OwnL.lit (Ext.refl w2) _ _ H0.out 2 rfl (by omega)) (Ext_alloc _ (Ext.refl w2)) HN.out ?_; intro v3 w3 ho3 he3; have he13 := he12.trans he3)
      | (at_builtin; refine wpList_appN rfl (.tmp 24) (.tmp 35) _ rfl E_u8 (by omega) w2 _ vu8 (fun _ => rfl) _ rfl _ _ rfl ([UInt8.ofNat k.toNat, UInt8.ofNat nm.size] ++ nm.data.toList) [UInt8.ofNat ver.toNat, UInt8.ofNat (P.length / 256), UInt8.ofNat P.length] _ H1.out ho3 he3 rfl HN1.out ?_; intro v4 w4 ho4 he4; have he14 := he12.trans he4)
      | (at_builtin; refine wpList_appL rfl (.tmp 37) (.tmp 38) _ rfl E_u8 (by omega) w2 _ vu8 (fun _ => rfl) _ rfl _ _ _ rfl (([UInt8.ofNat k.toNat, UInt8.ofNat nm.size] ++ nm.data.toList) ++ [UInt8.ofNat ver.toNat, UInt8.ofNat (P.length / 256), UInt8.ofNat P.length]) P ho4 he4 rfl (hr2.src he4) HN2.out ?_; intro v5 w5 ho5 he5 _ _; rw [HE.out] at ho5; obtain ⟨A5, c5, hv5, hr5⟩ := ho5.rd (by have := HN4.out; omega); subst hv5; have he15 := he12.trans he5)
      | (go_at_call 186; refine (iSumOfBytes_c _ _ _ _ hr5 HN4.out).mono ?_; rintro _ w6 ⟨rfl, he6⟩; have ho6 := ho5.ext he6; have he56 := he5.trans he6)
      | (at_builtin; refine wpList_appN rfl (.tmp 40) (.tmp 44) _ rfl E_u8 (by omega) w2 _ vu8 (fun _ => rfl) _ rfl _ _ rfl EB [UInt8.ofNat (sumB EB)] _ HS.out ho6 he56 rfl HN3.out ?_; intro v7 w7 ho7 he7)
      | (at_builtin; trace_state; fail))
    go_ret
    exact ⟨_, rfl, ho7.lower (eb.trans he12), (eb.trans he12).trans he7⟩

set_option maxRecDepth 100000 in
set_option maxHeartbeats 2000000 in
theorem sEncodeRecord_c (k : Int) (nm : ByteArray) (ver : Int) (A : Option Addr) (l : List UInt8) (c : Nat) (w : World) (h : Bs w A l c) (hn : nm.size ≤ 9223372036854775807) :
    Calls Try.prog 173 #[vrec k nm ver (.slice A l.length c)] w fun e w' => ∃ v, e = .returned v ∧ OwnL vu8 5 w w' v (encRec k nm ver l) ∧ Ext w w' := by
  have C1 := Lib.hid (fun w => sIsValidRecord_c k nm ver A l c w h.len hn)
  have B := fun w' (e : Ext (w.alloc (.cells #[.int .i64 k, .string nm, .int .i64 ver, .slice A l.length c] 138)) w') => boxed e
  have eb := Ext_alloc (.cells #[.int .i64 k, .string nm, .int .i64 ver, .slice A l.length c] 138) (Ext.refl w)
  unfold encRec
  cases hv : validRec k nm ver l.length
  · rw [hv] at C1
    unfold vrec at C1 ⊢
    go_enter Try.func173, Try.ntmps173
    go_wp2_with (first
      | (go_at_call 180; refine (C1.out _).mono ?_; rintro _ w1 ⟨rfl, he1⟩))
    go_ret
    exact ⟨_, rfl, OwnL.empty (eb.trans he1), Ext_alloc _ (eb.trans he1)⟩
  · rw [hv] at C1
    have C2 := Lib.hid (fun w' (e : Ext w w') => sPackBytes_c A l c w' (h.ext e) (by have := validRec_facts hv; omega))
    have hf := validRec_facts hv
    have hpl : (pack l).length ≤ 800 := by
      have hp := pack_le l
      omega
    have HPL : Hid ((pack l).length ≤ 140737488351232) := by
      show _ ≤ _; omega
    have H0 : Hid (#[Value.int .u8 (k % 256), Value.int .u8 ((nm.size : Int) % 256)] = ([UInt8.ofNat k.toNat, UInt8.ofNat nm.size].map vu8).toArray) := by
      show _ = _
      simp [vu8, UInt8.toNat_ofNat']; omega
    have H1 : Hid (#[Value.int .u8 (ver % 256)] = ([UInt8.ofNat ver.toNat].map vu8).toArray) := by
      show _ = _
      simp [vu8, UInt8.toNat_ofNat']; omega
    have HNS : Hid (nm.size ≤ 140737488351232) := by show _ ≤ _; omega
    have HNL : Hid (nm.size = nm.data.toList.length) := by show _ = _; simp
    have HN : Hid (([UInt8.ofNat k.toNat, UInt8.ofNat nm.size].length + nm.data.toList.length) * 1 ≤ 140737488355328) := by
      show _ ≤ _
      simp; omega
    have HN1 : Hid (((([UInt8.ofNat k.toNat, UInt8.ofNat nm.size] ++ nm.data.toList).length + [UInt8.ofNat ver.toNat].length) * 1) ≤ 140737488355328) := by
      show _ ≤ _
      simp; omega
    have HE : Hid (([UInt8.ofNat k.toNat, UInt8.ofNat nm.size] ++ nm.data.toList) ++ [UInt8.ofNat ver.toNat] ++ be2 (pack l).length ++ pack l = encBody k nm ver l) := rfl
    have HBL : Hid ((encBody k nm ver l).length = nm.size + 5 + (pack l).length) := encBody_length k nm ver l
    have HS : Hid (#[Value.int .u8 ((sumB (encBody k nm ver l) : Int) % 256)] = ([UInt8.ofNat (sumB (encBody k nm ver l))].map vu8).toArray) := by
      show _ = _
      simp [vu8, UInt8.toNat_ofNat']
    generalize hP : pack l = P at *
    have HP := Lib.hid hP; clear hP
    have HBE : Hid (P.length ≤ 65535) := by show _ ≤ _; omega
    have hbe : (be2 P.length).length = 2 := rfl
    have HN2 : Hid ((((([UInt8.ofNat k.toNat, UInt8.ofNat nm.size] ++ nm.data.toList) ++ [UInt8.ofNat ver.toNat]).length + (be2 P.length).length) * 1) ≤ 140737488355328) := by
      show _ ≤ _
      simp; omega
    have HN2b : Hid ((((([UInt8.ofNat k.toNat, UInt8.ofNat nm.size] ++ nm.data.toList) ++ [UInt8.ofNat ver.toNat] ++ be2 P.length).length + P.length) * 1) ≤ 140737488355328) := by
      show _ ≤ _
      simp; omega
    have HB2 := Lib.hid hbe; clear hbe
    generalize hBE : be2 P.length = BE at *
    have HBQ := Lib.hid hBE; clear hBE
    have CB := Lib.hid (fun w => BigEndian2_c P.length w HBE.out)
    rw [HBQ.out] at CB
    have HN3 : Hid (((encBody k nm ver l).length + [UInt8.ofNat (sumB (encBody k nm ver l))].length) * 1 ≤ 140737488355328) := by
      show _ ≤ _
      rw [HBL.out]; simp; omega
    have HN4 : Hid ((encBody k nm ver l).length ≤ 140737488351232) := by
      show _ ≤ _
      rw [HBL.out]; omega
    generalize encBody k nm ver l = EB at *
    clear HBL hf
    unfold vrec at C1 ⊢
    go_enter Try.func173, Try.ntmps173
    go_wp2_with (first
      | (go_at_call 180; refine (C1.out _).mono ?_; rintro _ w1 ⟨rfl, he1⟩)
      | (go_at_call 181; refine (C2.out _ (eb.trans (by assumption))).mono ?_; rintro _ w2 ⟨v2, rfl, ho2, he2⟩; have he12 := he1.trans he2; obtain ⟨A2, c2, rfl, hr2⟩ := OwnL.rd ho2 HPL.out)
      | (refine wpList_bytesOf rfl (.tmp 21) 9 45 rfl rfl rfl rfl _ nm rfl HNS.out ?_; intro c3 w3 hr3 he3; have hl3 := (OwnL.lit (Ext.refl w2) _ _ H0.out 2 rfl (by omega)).ext he3; have he23 := (Ext_alloc _ (Ext.refl w2)).trans he3; have he13 := he12.trans he23)
      | (at_builtin; refine wpList_appL rfl (.tmp 19) (.tmp 22) _ rfl E_u8 (by omega) w2 _ vu8 (fun _ => rfl) _ rfl _ _ _ rfl [UInt8.ofNat k.toNat, UInt8.ofNat nm.size] nm.data.toList hl3 he23 HNL.out (hr3.src (Ext.refl _)) HN.out ?_; intro v4 w4 ho4 he4 _ _; have he14 := he12.trans he4)
      | (at_builtin; refine wpList_appN rfl (.tmp 24) (.tmp 28) _ rfl E_u8 (by omega) w2 _ vu8 (fun _ => rfl) _ rfl _ _ rfl ([UInt8.ofNat k.toNat, UInt8.ofNat nm.size] ++ nm.data.toList) [UInt8.ofNat ver.toNat] _ H1.out ho4 he4 rfl HN1.out ?_; intro v5 w5 ho5 he5; have he15 := he12.trans he5)
      | (go_at_call 182; refine (CB.out _).mono ?_; rintro _ w6 ⟨v6, rfl, ho6, he6⟩; obtain ⟨A6, c6, hv6, hr6⟩ := OwnL.rd ho6 (by rw [HB2.out]; omega); subst hv6; have hp5 := ho5.ext he6; have he26 := he5.trans he6; have he16 := he12.trans he26)
      | (at_builtin; refine wpList_appL rfl (.tmp 29) (.tmp 32) _ rfl E_u8 (by omega) w2 _ vu8 (fun _ => rfl) _ rfl _ _ _ rfl (([UInt8.ofNat k.toNat, UInt8.ofNat nm.size] ++ nm.data.toList) ++ [UInt8.ofNat ver.toNat]) BE hp5 he26 rfl (hr6.src (Ext.refl _)) HN2.out ?_; intro v7 w7 ho7 he7 _ _; have he17 := he12.trans he7)
      | (at_builtin; refine wpList_appL rfl (.tmp 33) (.tmp 34) _ rfl E_u8 (by omega) w2 _ vu8 (fun _ => rfl) _ rfl _ _ _ rfl (([UInt8.ofNat k.toNat, UInt8.ofNat nm.size] ++ nm.data.toList) ++ [UInt8.ofNat ver.toNat] ++ BE) P ho7 he7 rfl (hr2.src he7) HN2b.out ?_; intro v8 w8 ho8 he8 _ _; rw [HE.out] at ho8; obtain ⟨A8, c8, hv8, hr8⟩ := ho8.rd HN4.out; subst hv8; have he18 := he12.trans he8)
      | (go_at_call 183; refine (sSumOfBytes_c _ _ _ _ hr8).mono ?_; rintro _ w9 ⟨rfl, he9⟩; have ho9 := ho8.ext he9; have he29 := he8.trans he9)
      | (at_builtin; refine wpList_appN rfl (.tmp 36) (.tmp 40) _ rfl E_u8 (by omega) w2 _ vu8 (fun _ => rfl) _ rfl _ _ rfl EB [UInt8.ofNat (sumB EB)] _ HS.out ho9 he29 rfl HN3.out ?_; intro v10 w10 ho10 he10))
    go_ret
    exact ⟨_, rfl, ho10.lower (eb.trans he12), (eb.trans he12).trans he10⟩

end Go.Proofs.Ytlaejcacembjiaa

/- UnpackBytes and IsPacked of the program and of the reference. -/
namespace Go.Proofs.Ytlaejcacembjiaa
open Go.RowKit Go.Sort

set_option maxRecDepth 100000 in
set_option maxHeartbeats 1000000 in
theorem iUnpackBytes_c (A : Option Addr) (l : List UInt8) (c : Nat) (w : World) (h : Bs w A l c) :
    Calls Try.prog 174 #[.slice A l.length c] w fun e w' => ∃ v, e = .returned (.tuple #[v, .bool (unpack l).isSome]) ∧ OwnL vu8 5 w w' v ((unpack l).getD []) ∧ Ext w w' := by
  have hl := h.len
  go_enter Try.func174, Try.ntmps174
  go_wp2
  go_loopw [4, 5] (fun t i wr => ∃ (a : Nat) (out : List UInt8), a ≤ l.length ∧ i = .int .i64 a ∧ OwnL vu8 5 w wr t out ∧ out.length ≤ 1000 ∧ Hid (unpackAt l a out = unpack l) ∧ Ext w wr) (fun _ i _ => l.length - (intOf i).toNat)
  case atStart => exact ⟨0, [], by omega, rfl, OwnL.empty (Ext.refl _), by simp, by simp [Hid, unpackAt, unpack], Ext_alloc _ (Ext.refl _)⟩
  case round =>
    obtain ⟨a, out, ha, rfl, ho, hout, hs, he⟩ := hrel
    by_cases hlt : a < l.length
    · obtain ⟨b, off, rfl, hb, hcs⟩ := h.base (by omega)
      have hc := fun w' e => hcs w' e a hlt
      have hstep := Lib.hid (unpackAt_step l a out hlt)
      have hx : (l[a].toNat : Int) ≤ 255 := by have := l[a].toNat_lt; omega
      have e0 : (l[a] = 0) ↔ l[a].toNat = 0 := by rw [← UInt8.toNat_inj]; simp
      have e128 : (l[a] = 128) ↔ l[a].toNat = 128 := by rw [← UInt8.toNat_inj]; simp
      have elt : (l[a] < 128) ↔ l[a].toNat < 128 := by rw [UInt8.lt_iff_toNat_lt]; simp
      by_cases c1 : l[a] = 0 ∨ l[a] = 128 ∨ l.length = a + 1
      · have HN : Hid (unpack l = none) := by have := hs.out; rw [hstep.out, if_pos c1] at this; exact this.symm
        rw [e0, e128] at c1
        clear hs hstep e0 e128 elt ho
        cases d1 : ((l[a].toNat : Int) == 0) <;> cases d2 : ((l[a].toNat : Int) == 128) <;> cases d3 : ((a:Int) + 1 == (l.length:Int))
        all_goals first
          | (exfalso; simp at d1 d2 d3; omega)
          | (clear c1; go_wp2; go_ret2; rw [HN.out]; exact ⟨_, rfl, OwnL.empty he, Ext_alloc _ he⟩)
      · have c1' : ¬ (l[a].toNat = 0 ∨ l[a].toNat = 128 ∨ l.length = a + 1) := by rw [← e0, ← e128]; exact c1
        have d1 : ((l[a].toNat : Int) == 0) = false := beq_eq_false_iff_ne.2 (by omega)
        have d2 : ((l[a].toNat : Int) == 128) = false := beq_eq_false_iff_ne.2 (by omega)
        have d3 : ((a:Int) + 1 == (l.length:Int)) = false := beq_eq_false_iff_ne.2 (by omega)
        have hs := Lib.hid (hs.out.symm.trans (hstep.out.trans (if_neg c1)))
        by_cases c2 : l[a] < 128
        · have hs := Lib.hid (hs.out.trans (if_pos c2))
          rw [elt] at c2
          clear hstep e0 e128 elt c1
          by_cases c3 : l.length < a + 1 + l[a].toNat
          · have HN : Hid (unpack l = none) := hs.out.trans (if_pos c3)
            clear hs ho
            go_wp2
            go_ret2; rw [HN.out]; exact ⟨_, rfl, OwnL.empty he, Ext_alloc _ he⟩
          · have hs := Lib.hid (hs.out.trans (if_neg c3))
            have hcap := h.cap
            have hcells := part_cells (hcs wr he) (a + 1) l[a].toNat
            have hln : a + 1 + l[a].toNat - (a + 1) = ((l.drop (a+1)).take l[a].toNat).length := by simp; omega
            have hlen : ((l.drop (a+1)).take l[a].toNat).length = l[a].toNat := by simp; omega
            have HC := Lib.hid hcells; have HL := Lib.hid hln; have HN := Lib.hid hlen
            have HB : (out.length + ((l.drop (a+1)).take l[a].toNat).length) * 1 ≤ 140737488355328 := by omega
            have HB := Lib.hid HB; clear hcells hln hlen hcs
            go_wp2_with (first
              | (at_builtin; go_must (refine wpList_appL rfl (.tmp 57) (.tmp 63) _ rfl E_u8 (by omega) w wr vu8 (fun _ => rfl) u4 rfl _ _ _ rfl out ((l.drop (a+1)).take l[a].toNat) ho he HL.out (fun _ => ⟨_, rfl, HC.out⟩) HB.out ?_); intro v1 w1 ho1 he1 _ _; obtain ⟨A1, c1, hv1, _⟩ := ho1.rd (by rw [List.length_append, HN.out]; omega); subst hv1))
            · have hbig : ((1000 : Int) < (out.length : Int) + (min l[a].toNat (l.length - (a + 1)) : Nat)) := by assumption
              have HN2 : Hid (unpack l = none) := hs.out.trans (if_pos (by omega))
              go_ret2; rw [HN2.out]; exact ⟨_, rfl, OwnL.empty he1, Ext_alloc _ he1⟩
            · have hsm : (out.length : Int) + (min l[a].toNat (l.length - (a + 1)) : Nat) ≤ 1000 := by assumption
              have hs2 := hs.out.trans (if_neg (by omega))
              go_roundw
              case rel => exact ⟨a + 1 + l[a].toNat, out ++ (l.drop (a+1)).take l[a].toNat, by omega, by go_num, by simpa using ho1, by simp; omega, hs2.symm, he1⟩
              case measure => simp [intOf]; omega
        · have hs := Lib.hid (hs.out.trans (if_neg c2))
          rw [elt] at c2
          clear hstep e0 e128 elt c1
          have ha1 : a + 1 < l.length := by omega
          have hhd : (l.drop (a+1)).headD 0 = l[a+1] := by rw [List.drop_eq_getElem_cons ha1]; rfl
          have HD := Lib.hid hhd; clear hhd
          have hc' := fun w' e => hcs w' e (a+1) ha1
          have d5 : decide ((128 : Int) < (l[a].toNat : Int)) = true := by simp; omega
          go_wp2
          go_loopw [4, 21] (fun t i wq => ∃ j : Nat, j ≤ l[a].toNat - 128 ∧ i = .int .i64 j ∧ OwnL vu8 5 w wq t (out ++ List.replicate j l[a+1]) ∧ Ext w wq) (fun _ i _ => l[a].toNat - 128 - (intOf i).toNat)
          case atStart => exact ⟨0, by omega, rfl, by simpa using ho, he⟩
          case round =>
            clear ho he
            obtain ⟨j, hj, rfl, ho, he⟩ := hrel
            by_cases hjn : j < l[a].toNat - 128
            · have HR : Hid (out ++ List.replicate j l[a+1] ++ [l[a+1]] = out ++ List.replicate (j+1) l[a+1]) := by rw [List.append_assoc, ← List.replicate_succ']; rfl
              have HB : ((out ++ List.replicate j l[a+1]).length + [l[a+1]].length) * 1 ≤ 140737488355328 := by simp; omega
              have HB := Lib.hid HB
              go_wp2_with (first
                | (at_builtin; go_must (refine wpList_appN rfl (.tmp 23) (.tmp 28) _ rfl E_u8 (by omega) w _ vu8 (fun _ => rfl) _ rfl _ _ rfl (out ++ List.replicate j l[a+1]) [l[a+1]] _ rfl ho he rfl HB.out ?_); intro v1 w1 ho1 he1; rw [HR.out] at ho1))
              go_roundw
              case rel => exact ⟨j+1, by omega, by go_num, ho1, he1⟩
              case measure => simp [intOf]; omega
            · obtain rfl : j = l[a].toNat - 128 := by omega
              obtain ⟨A1, c1, rfl, _⟩ := ho.rd (by simp; omega)
              go_wp2
              · have hbig : ((1000 : Int) < (out.length : Int) + ((l[a].toNat - 128 : Nat) : Int)) := by assumption
                have HN2 : Hid (unpack l = none) := hs.out.trans (if_pos (by omega))
                go_ret2; rw [HN2.out]; exact ⟨_, rfl, OwnL.empty he, Ext_alloc _ he⟩
              · have hsm : (out.length : Int) + ((l[a].toNat - 128 : Nat) : Int) ≤ 1000 := by assumption
                have hs2 := hs.out.trans (if_neg (by omega))
                rw [HD.out] at hs2
                go_roundw
                case rel => exact ⟨a + 2, out ++ List.replicate (l[a].toNat - 128) l[a+1], by omega, by go_num, by simpa using ho, by simp; omega, hs2.symm, he⟩
                case measure => simp [intOf]; omega
    · go_wp2
      go_ret2
      have hn := hs.out.symm.trans (unpackAt_end l a out (by omega))
      rw [hn]
      exact ⟨_, rfl, ho, he⟩

set_option maxRecDepth 100000 in
set_option maxHeartbeats 1000000 in
theorem sUnpackBytes_c (A : Option Addr) (l : List UInt8) (c : Nat) (w : World) (h : Bs w A l c) :
    Calls Try.prog 172 #[.slice A l.length c] w fun e w' => ∃ v, e = .returned (.tuple #[v, .bool (unpack l).isSome]) ∧ OwnL vu8 5 w w' v ((unpack l).getD []) ∧ Ext w w' := by
  have hl := h.len
  go_enter Try.func172, Try.ntmps172
  go_wp2
  go_loopw [4, 5] (fun t i wr => ∃ (a : Nat) (out : List UInt8), a ≤ l.length ∧ i = .int .i64 a ∧ OwnL vu8 5 w wr t out ∧ out.length ≤ 1000 ∧ Hid (unpackAt l a out = unpack l) ∧ Ext w wr) (fun _ i _ => l.length - (intOf i).toNat)
  case atStart => exact ⟨0, [], by omega, rfl, OwnL.empty (Ext.refl _), by simp, by simp [Hid, unpackAt, unpack], Ext_alloc _ (Ext.refl _)⟩
  case round =>
    obtain ⟨a, out, ha, rfl, ho, hout, hs, he⟩ := hrel
    by_cases hlt : a < l.length
    · obtain ⟨b, off, rfl, hb, hcs⟩ := h.base (by omega)
      have hc := fun w' e => hcs w' e a hlt
      have hstep := Lib.hid (unpackAt_step l a out hlt)
      have hx : (l[a].toNat : Int) ≤ 255 := by have := l[a].toNat_lt; omega
      have e0 : (l[a] = 0) ↔ l[a].toNat = 0 := by rw [← UInt8.toNat_inj]; simp
      have e128 : (l[a] = 128) ↔ l[a].toNat = 128 := by rw [← UInt8.toNat_inj]; simp
      have elt : (l[a] < 128) ↔ l[a].toNat < 128 := by rw [UInt8.lt_iff_toNat_lt]; simp
      by_cases c1 : l[a] = 0 ∨ l[a] = 128 ∨ l.length = a + 1
      · have HN : Hid (unpack l = none) := by have := hs.out; rw [hstep.out, if_pos c1] at this; exact this.symm
        rw [e0, e128] at c1
        clear hs hstep e0 e128 elt ho
        cases d1 : ((l[a].toNat : Int) == 0) <;> cases d2 : ((l[a].toNat : Int) == 128) <;> cases d3 : (decide ((l.length:Int) ≤ (a:Int) + 1))
        all_goals first
          | (exfalso; simp at d1 d2 d3; omega)
          | (clear c1; go_wp2; go_ret2; rw [HN.out]; exact ⟨_, rfl, OwnL.empty he, Ext_alloc _ he⟩)
      · have c1' : ¬ (l[a].toNat = 0 ∨ l[a].toNat = 128 ∨ l.length = a + 1) := by rw [← e0, ← e128]; exact c1
        have d1 : ((l[a].toNat : Int) == 0) = false := beq_eq_false_iff_ne.2 (by omega)
        have d2 : ((l[a].toNat : Int) == 128) = false := beq_eq_false_iff_ne.2 (by omega)
        have d3 : (decide ((l.length:Int) ≤ (a:Int) + 1)) = false := decide_eq_false (by omega)
        have hs := Lib.hid (hs.out.symm.trans (hstep.out.trans (if_neg c1)))
        by_cases c2 : l[a] < 128
        · have hs := Lib.hid (hs.out.trans (if_pos c2))
          rw [elt] at c2
          clear hstep e0 e128 elt c1
          by_cases c3 : l.length < a + 1 + l[a].toNat
          · have HN : Hid (unpack l = none) := hs.out.trans (if_pos c3)
            clear hs ho
            go_wp2
            go_ret2; rw [HN.out]; exact ⟨_, rfl, OwnL.empty he, Ext_alloc _ he⟩
          · have hs := Lib.hid (hs.out.trans (if_neg c3))
            have hcap := h.cap
            have hcells := part_cells (hcs wr he) (a + 1) l[a].toNat
            have hln : a + 1 + l[a].toNat - (a + 1) = ((l.drop (a+1)).take l[a].toNat).length := by simp; omega
            have hlen : ((l.drop (a+1)).take l[a].toNat).length = l[a].toNat := by simp; omega
            have HC := Lib.hid hcells; have HL := Lib.hid hln; have HN := Lib.hid hlen
            have HB : (out.length + ((l.drop (a+1)).take l[a].toNat).length) * 1 ≤ 140737488355328 := by omega
            have HB := Lib.hid HB; clear hcells hln hlen hcs
            go_wp2_with (first
              | (at_builtin; go_must (refine wpList_appL rfl (.tmp 26) (.tmp 34) _ rfl E_u8 (by omega) w wr vu8 (fun _ => rfl) u4 rfl _ _ _ rfl out ((l.drop (a+1)).take l[a].toNat) ho he HL.out (fun _ => ⟨_, rfl, HC.out⟩) HB.out ?_); intro v1 w1 ho1 he1 _ _; obtain ⟨A1, c1, hv1, _⟩ := ho1.rd (by rw [List.length_append, HN.out]; omega); subst hv1))
            · have hbig : ((1000 : Int) < (out.length : Int) + (min l[a].toNat (l.length - (a + 1)) : Nat)) := by assumption
              have HN2 : Hid (unpack l = none) := hs.out.trans (if_pos (by omega))
              go_ret2; rw [HN2.out]; exact ⟨_, rfl, OwnL.empty he1, Ext_alloc _ he1⟩
            · have hsm : (out.length : Int) + (min l[a].toNat (l.length - (a + 1)) : Nat) ≤ 1000 := by assumption
              have hs2 := hs.out.trans (if_neg (by omega))
              go_roundw
              case rel => exact ⟨a + 1 + l[a].toNat, out ++ (l.drop (a+1)).take l[a].toNat, by omega, by go_num, by simpa using ho1, by simp; omega, hs2.symm, he1⟩
              case measure => simp [intOf]; omega
        · have hs := Lib.hid (hs.out.trans (if_neg c2))
          rw [elt] at c2
          clear hstep e0 e128 elt c1
          have ha1 : a + 1 < l.length := by omega
          have hhd : (l.drop (a+1)).headD 0 = l[a+1] := by rw [List.drop_eq_getElem_cons ha1]; rfl
          have HD := Lib.hid hhd; clear hhd
          have hc' := fun w' e => hcs w' e (a+1) ha1
          have d5 : decide ((128 : Int) < (l[a].toNat : Int)) = true := by simp; omega
          go_wp2
          go_loopw [4, 7] (fun t i wq => ∃ j : Nat, j ≤ l[a].toNat - 128 ∧ i = .int .i64 j ∧ OwnL vu8 5 w wq t (out ++ List.replicate j l[a+1]) ∧ Ext w wq) (fun _ i _ => l[a].toNat - 128 - (intOf i).toNat)
          case atStart => exact ⟨0, by omega, rfl, by simpa using ho, he⟩
          case round =>
            clear ho he
            obtain ⟨j, hj, rfl, ho, he⟩ := hrel
            by_cases hjn : j < l[a].toNat - 128
            · have HR : Hid (out ++ List.replicate j l[a+1] ++ [l[a+1]] = out ++ List.replicate (j+1) l[a+1]) := by rw [List.append_assoc, ← List.replicate_succ']; rfl
              have HB : ((out ++ List.replicate j l[a+1]).length + [l[a+1]].length) * 1 ≤ 140737488355328 := by simp; omega
              have HB := Lib.hid HB
              go_wp2_with (first
                | (at_builtin; go_must (refine wpList_appN rfl (.tmp 64) (.tmp 70) _ rfl E_u8 (by omega) w _ vu8 (fun _ => rfl) _ rfl _ _ rfl (out ++ List.replicate j l[a+1]) [l[a+1]] _ rfl ho he rfl HB.out ?_); intro v1 w1 ho1 he1; rw [HR.out] at ho1))
              go_roundw
              case rel => exact ⟨j+1, by omega, by go_num, ho1, he1⟩
              case measure => simp [intOf]; omega
            · obtain rfl : j = l[a].toNat - 128 := by omega
              obtain ⟨A1, c1, rfl, _⟩ := ho.rd (by simp; omega)
              go_wp2
              · have hbig : ((1000 : Int) < (out.length : Int) + ((l[a].toNat - 128 : Nat) : Int)) := by assumption
                have HN2 : Hid (unpack l = none) := hs.out.trans (if_pos (by omega))
                go_ret2; rw [HN2.out]; exact ⟨_, rfl, OwnL.empty he, Ext_alloc _ he⟩
              · have hsm : (out.length : Int) + ((l[a].toNat - 128 : Nat) : Int) ≤ 1000 := by assumption
                have hs2 := hs.out.trans (if_neg (by omega))
                rw [HD.out] at hs2
                go_roundw
                case rel => exact ⟨a + 2, out ++ List.replicate (l[a].toNat - 128) l[a+1], by omega, by go_num, by simpa using ho, by simp; omega, hs2.symm, he⟩
                case measure => simp [intOf]; omega
    · go_wp2
      go_ret2
      have hn := hs.out.symm.trans (unpackAt_end l a out (by omega))
      rw [hn]
      exact ⟨_, rfl, ho, he⟩


end Go.Proofs.Ytlaejcacembjiaa

/- The walk of the law on UnpackBytes. -/
namespace Go.Proofs.Ytlaejcacembjiaa
open Go.RowKit Go.Sort

theorem unpackF_le : ∀ f b out o, unpackF f b out = some o → out.length ≤ 1000 → o.length ≤ 1000 := by
  intro f
  induction f with
  | zero => intro b out o h hl; cases b with
    | nil => simp only [unpackF, Option.some.injEq] at h; subst h; exact hl
    | cons => simp [unpackF] at h
  | succ f ih =>
    intro b out o h hl
    cases b with
    | nil => simp only [unpackF, Option.some.injEq] at h; subst h; exact hl
    | cons x t =>
      simp only [unpackF] at h
      split at h
      · cases h
      · split at h
        · split at h
          · cases h
          · split at h
            · cases h
            · exact ih _ _ _ h (by omega)
        · split at h
          · cases h
          · exact ih _ _ _ h (by omega)
theorem unpack_le (l : List UInt8) : ((unpack l).getD []).length ≤ 1000 := by
  cases h : unpack l with
  | none => simp
  | some o => exact unpackF_le _ _ _ _ h (by simp)

end Go.Proofs.Ytlaejcacembjiaa
