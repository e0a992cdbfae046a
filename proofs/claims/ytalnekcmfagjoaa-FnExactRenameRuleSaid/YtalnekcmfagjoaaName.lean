/- IsName of the program and of the reference. -/
import Derived.Test.YtalnekcmfagjoaaMinMax
import Derived.Test.YtalnekcmfagjoaaRun
import Derived.Laws.RangeAny
namespace Go.Proofs.Ytalnekcmfagjoaa
open Go.RowKit Go.Sort

/-- may this byte stand at this place of a name -/
def nameCh (i : Nat) (x : UInt8) : Bool := decide (97 ≤ x.toNat ∧ x.toNat ≤ 122) || (decide (48 ≤ x.toNat ∧ x.toNat ≤ 57) && decide (i ≠ 0))
def okCh (s : ByteArray) (i : Nat) : Bool := if h : i < s.size then nameCh i s[i] else true
def isName (s : ByteArray) : Bool := decide (1 ≤ s.size ∧ s.size ≤ 12) && (List.range s.size).all (okCh s)
theorem isName_no {s : ByteArray} {k : Nat} (hk : k < s.size) (h : okCh s k = false) : isName s = false := by
  unfold isName
  rw [Bool.and_eq_false_iff]; right
  rw [Bool.eq_false_iff]
  intro hall
  have := List.all_eq_true.1 hall k (by simpa using hk)
  rw [h] at this; cases this
theorem isName_all {s : ByteArray} (h : ∀ j, j < s.size → okCh s j = true) : isName s = decide (1 ≤ s.size ∧ s.size ≤ 12) := by
  unfold isName
  rw [List.all_eq_true.2 (fun j hj => h j (by simpa using hj)), Bool.and_true]
theorem okCh_at {s : ByteArray} {k : Nat} (hk : k < s.size) : okCh s k = nameCh k s[k] := dif_pos hk

set_option maxRecDepth 100000 in
set_option maxHeartbeats 2000000 in
theorem sIsName_c (s : ByteArray) (w : World) (hs : s.size ≤ 9223372036854775807) : Gives Try.prog 92 #[.string s] w (.bool (isName s)) := by
  go_enter Try.func92, Try.ntmps92
  go_wp2
  go_loopw [3] (fun i wr => ∃ k : Nat, k ≤ s.size ∧ i = .int .i64 k ∧ Hid (∀ j, j < k → okCh s j = true) ∧ Ext w wr) (fun i _ => s.size - (intOf i).toNat)
  case atStart => exact ⟨0, by omega, rfl, (fun j hj => by omega), Ext.refl _⟩
  case round =>
    obtain ⟨k, hk, rfl, ho, he⟩ := hrel
    by_cases hlt : k < s.size
    · have hb : (s[k].toNat : Int) ≤ 255 := by have := s[k].toNat_lt; omega
      have hok := Lib.hid (okCh_at hlt)
      rcases (by omega : (s[k].toNat : Int) < 48 ∨ ((48 : Int) ≤ s[k].toNat ∧ (s[k].toNat : Int) ≤ 57 ∧ k = 0) ∨ ((48 : Int) ≤ s[k].toNat ∧ (s[k].toNat : Int) ≤ 57 ∧ 0 < k) ∨ ((57 : Int) < s[k].toNat ∧ (s[k].toNat : Int) < 97) ∨ ((97 : Int) ≤ s[k].toNat ∧ (s[k].toNat : Int) ≤ 122) ∨ (122 : Int) < s[k].toNat) with c | ⟨c, c', rfl⟩ | ⟨c, c', c''⟩ | ⟨c, c'⟩ | ⟨c, c'⟩ | c
      all_goals
        go_wp2
        all_goals first
          | (exfalso
             have hq : (!decide ((s[k].toNat : Int) ≤ 122)) = false := by assumption
             simp at hq
             omega)
          | (go_ret
             refine ⟨ret_bool ?_, he⟩
             rw [isName_no hlt]
             rw [hok.out]; unfold nameCh; simp; omega)
          | (go_roundw
             case rel => exact ⟨k+1, by omega, by go_num, (fun j hj => by
               rcases (by omega : j < k ∨ j = k) with hj | rfl
               · exact ho.out j hj
               · rw [hok.out]; unfold nameCh; simp; omega), he⟩
             case measure => simp [intOf]; omega)
    · obtain rfl : k = s.size := by omega
      have HE := Lib.hid (isName_all ho.out)
      go_wp2_with (go_at_call 64; refine (l1In_c _ _ _ _).mono ?_; rintro _ w1 ⟨rfl, he1⟩)
      go_ret
      refine ⟨ret_bool ?_, he.trans he1⟩
      rw [HE.out, Bool.eq_iff_iff]; simp; omega

set_option maxRecDepth 100000 in
set_option maxHeartbeats 2000000 in
theorem iIsName_c (s : ByteArray) (w : World) (hs : s.size ≤ 9223372036854775807) : Gives Try.prog 97 #[.string s] w (.bool (isName s)) := by
  by_cases hlen : 1 ≤ s.size ∧ s.size ≤ 12
  · obtain ⟨hlo, hhi⟩ := hlen
    have d1 : decide ((s.size : Int) < 1) = false := by simp; omega
    have d2 : decide ((12 : Int) < (s.size : Int)) = false := by simp; omega
    go_enter Try.func97, Try.ntmps97
    go_wp2
    go_loopw [3, 4, 5, 6] (fun _ _ _ _ wr => ∃ k : Nat, k ≤ s.size ∧ Hid (∀ j, j < k → okCh s j = true) ∧ wr = w.iter s k) (fun _ _ _ _ wr => s.size - wr.iterPos w.heap.size)
    case atStart => exact ⟨0, by omega, (fun j hj => by omega), rfl⟩
    case round =>
      obtain ⟨k, hk, ho, rfl⟩ := hrel
      by_cases hlt : k < s.size
      · have hok := Lib.hid (okCh_at hlt)
        by_cases ha : s[k].toNat < 128
        · have hnx : ∀ ty, (Instr.next (.pointer (some ⟨w.heap.size, 0, none⟩)) true ty).run Try.prog (w.iter s k) = _ := fun ty => run_next_ascii w s k ty hlt ha
          rcases (by omega : (s[k].toNat : Int) < 48 ∨ ((48 : Int) ≤ s[k].toNat ∧ (s[k].toNat : Int) ≤ 57 ∧ k = 0) ∨ ((48 : Int) ≤ s[k].toNat ∧ (s[k].toNat : Int) ≤ 57 ∧ 0 < k) ∨ ((57 : Int) < s[k].toNat ∧ (s[k].toNat : Int) < 97) ∨ ((97 : Int) ≤ s[k].toNat ∧ (s[k].toNat : Int) ≤ 122) ∨ (122 : Int) < s[k].toNat) with c | ⟨c, c', rfl⟩ | ⟨c, c', c''⟩ | ⟨c, c'⟩ | ⟨c, c'⟩ | c
          all_goals
            go_wp2
            all_goals first
              | (exfalso
                 have hq : (!decide ((s[k].toNat : Int) ≤ 122)) = false := by assumption
                 simp at hq
                 omega)
              | (go_ret
                 refine ⟨ret_bool ?_, Ext_alloc _ (Ext.refl w)⟩
                 rw [isName_no hlt]
                 rw [hok.out]; unfold nameCh; simp; omega)
              | (go_roundw
                 case rel => exact ⟨k+1, by omega, (fun j hj => by
                   rcases (by omega : j < k ∨ j = k) with hj | rfl
                   · exact ho.out j hj
                   · rw [hok.out]; unfold nameCh; simp; omega), rfl⟩
                 case measure => simp; omega)
        · obtain ⟨hr1, hr2⟩ := decode_high s k hlt (by omega)
          have hr3 := decode_le s k
          have hnx : ∀ ty, (Instr.next (.pointer (some ⟨w.heap.size, 0, none⟩)) true ty).run Try.prog (w.iter s k) = _ := fun ty => run_next_any w s k ty hlt
          generalize (Utf8.decode s k).1 = rn at *
          generalize (Utf8.decode s k).2 = wd at *
          have d1 : decide ((rn : Int) ≤ 122) = false := by simp; omega
          have d2 : decide ((rn : Int) ≤ 57) = false := by simp; omega
          have hr1 : (128 : Int) ≤ (rn : Int) := by omega
          go_wp2
          go_ret
          refine ⟨ret_bool ?_, Ext_alloc _ (Ext.refl w)⟩
          rw [isName_no hlt]
          rw [hok.out]; unfold nameCh; simp; omega
      · obtain rfl : k = s.size := by omega
        have HE := Lib.hid (isName_all ho.out)
        have hnx : ∀ ty, (Instr.next (.pointer (some ⟨w.heap.size, 0, none⟩)) true ty).run Try.prog (w.iter s s.size) = _ := fun ty => run_next_end w s s.size ty hlt
        go_wp2
        go_ret
        refine ⟨ret_bool ?_, Ext_alloc _ (Ext.refl w)⟩
        rw [HE.out]; simp; omega
  · have hno : Hid (isName s = false) := by show _ = _; unfold isName; rw [decide_eq_false hlen]; rfl
    rcases (by omega : (s.size : Int) < 1 ∨ ((1 : Int) ≤ s.size ∧ (12 : Int) < s.size)) with c | ⟨c, c'⟩
    all_goals
      go_enter Try.func97, Try.ntmps97
      go_wp2
      go_ret
      exact ⟨ret_bool hno.out.symm, Ext.refl w⟩
end Go.Proofs.Ytalnekcmfagjoaa
