/- extenderOf; what a rule's own comparison answers, for valid rules. -/
import Derived.Test.YtpefbcnfhngggaaExt2
import Derived.Test.YtpefbcnfhngggaaExtKey
namespace Go.Proofs.Ytpefbcnfhngggaa
open Go.RowKit Go.Sort

/-- the type of a rule's comparison -/
def extT (k : Int) : TypeId := if k = 4 ∨ k = 5 ∨ k = 6 ∨ k = 8 ∨ k = 9 then 96 else if k = 7 then 97 else 98
set_option maxRecDepth 100000 in
set_option maxHeartbeats 2000000 in
theorem extenderOf_c (p : DRule) (Ab : Option Addr) (cb : Nat) (An : Option Addr) (cn : Nat) (At : Option Addr) (ct : Nat) (Ak : Option Addr) (ck : Nat) (w : World) :
    Gives Try.prog 61 #[vrule p (.slice Ab p.bytes.length cb) (.slice An p.names.length cn) (.slice At p.tags.length ct) (.slice Ak p.kids.length ck)] w (.iface (extT p.kind) (vrule p (.slice Ab p.bytes.length cb) (.slice An p.names.length cn) (.slice At p.tags.length ct) (.slice Ak p.kids.length ck))) := by
  have eb := Ext_alloc (.cells #[.string p.nm, .int .i64 p.kind, .int .i64 p.size, .bool p.little, .slice Ab p.bytes.length cb, .slice An p.names.length cn, .slice At p.tags.length ct, .slice Ak p.kids.length ck] 73) (Ext.refl w)
  have BX := fun w' (e : Ext (w.alloc (.cells #[.string p.nm, .int .i64 p.kind, .int .i64 p.size, .bool p.little, .slice Ab p.bytes.length cb, .slice An p.names.length cn, .slice At p.tags.length ct, .slice Ak p.kids.length ck] 73)) w') => boxed e
  unfold vrule
  have K : ∀ k : Int, (p.kind == k) = decide (p.kind = k) := fun k => by rw [Bool.eq_iff_iff]; simp
  by_cases h4 : p.kind = 4
  · have HT : Hid (extT p.kind = 96) := if_pos (by omega)
    have k4 : (p.kind == 4) = true := by rw [K]; exact decide_eq_true h4
    rw [HT.out]; clear h4 K
    go_enter Try.func61, Try.ntmps61
    go_wp2
    go_ret
    exact ⟨rfl, eb⟩
  have k4 : (p.kind == 4) = false := by rw [K]; exact decide_eq_false h4
  by_cases h5 : p.kind = 5
  · have HT : Hid (extT p.kind = 96) := if_pos (by omega)
    have k5 : (p.kind == 5) = true := by rw [K]; exact decide_eq_true h5
    rw [HT.out]; clear h4 h5 K
    go_enter Try.func61, Try.ntmps61
    go_wp2
    go_ret
    exact ⟨rfl, eb⟩
  have k5 : (p.kind == 5) = false := by rw [K]; exact decide_eq_false h5
  by_cases h6 : p.kind = 6
  · have HT : Hid (extT p.kind = 96) := if_pos (by omega)
    have k6 : (p.kind == 6) = true := by rw [K]; exact decide_eq_true h6
    rw [HT.out]; clear h4 h5 h6 K
    go_enter Try.func61, Try.ntmps61
    go_wp2
    go_ret
    exact ⟨rfl, eb⟩
  have k6 : (p.kind == 6) = false := by rw [K]; exact decide_eq_false h6
  by_cases h8 : p.kind = 8
  · have HT : Hid (extT p.kind = 96) := if_pos (by omega)
    have k8 : (p.kind == 8) = true := by rw [K]; exact decide_eq_true h8
    rw [HT.out]; clear h4 h5 h6 h8 K
    go_enter Try.func61, Try.ntmps61
    go_wp2
    go_ret
    exact ⟨rfl, eb⟩
  have k8 : (p.kind == 8) = false := by rw [K]; exact decide_eq_false h8
  by_cases h9 : p.kind = 9
  · have HT : Hid (extT p.kind = 96) := if_pos (by omega)
    have k9 : (p.kind == 9) = true := by rw [K]; exact decide_eq_true h9
    rw [HT.out]; clear h4 h5 h6 h8 h9 K
    go_enter Try.func61, Try.ntmps61
    go_wp2
    go_ret
    exact ⟨rfl, eb⟩
  have k9 : (p.kind == 9) = false := by rw [K]; exact decide_eq_false h9
  by_cases h7 : p.kind = 7
  · have HT : Hid (extT p.kind = 97) := by show _ = _; unfold extT; rw [if_neg (by omega), if_pos h7]
    have k7 : (p.kind == 7) = true := by rw [K]; exact decide_eq_true h7
    rw [HT.out]; clear h4 h5 h6 h8 h9 h7 K
    go_enter Try.func61, Try.ntmps61
    go_wp2
    go_ret
    exact ⟨rfl, eb⟩
  have HT : Hid (extT p.kind = 98) := by show _ = _; unfold extT; rw [if_neg (by omega), if_neg h7]
  have k7 : (p.kind == 7) = false := by rw [K]; exact decide_eq_false h7
  rw [HT.out]; clear h4 h5 h6 h8 h9 h7 K
  go_enter Try.func61, Try.ntmps61
  go_wp2
  go_ret
  exact ⟨rfl, eb⟩
/-- does q's own comparison with p hold? -/
def selfB (p q : DRule) : Bool :=
  if q.kind = 4 ∨ q.kind = 5 ∨ q.kind = 6 ∨ q.kind = 8 ∨ q.kind = 9 then eqNms q.names p.names && decide (q.kids.length = p.kids.length)
  else if q.kind = 7 then allN p.tags.length (fun t => decide (tagN q.tags (p.tags.getD t 0) < q.tags.length))
  else q.size == p.size && (q.little == p.little && q.bytes == p.bytes)
/-- the function of a rule's comparison -/
def extF' (k : Int) : FuncId := if k = 4 ∨ k = 5 ∨ k = 6 ∨ k = 8 ∨ k = 9 then 100 else if k = 7 then 102 else 103
theorem self_c (q p : DRule) (Ab' : Option Addr) (cb' : Nat) (An' : Option Addr) (cn' : Nat) (At' : Option Addr) (ct' : Nat) (Ak' : Option Addr) (ck' : Nat) (Ab : Option Addr) (cb : Nat) (An : Option Addr) (cn : Nat) (At : Option Addr) (ct : Nat) (Ak : Option Addr) (ck : Nat) (w : World) (h' : RdS w q Ab' cb' An' cn' At' ct' Ak' ck') (h : RdS w p Ab cb An cn At ct Ak ck) (hs' : ShortR q) (hs : ShortR p) :
    Gives Try.prog (extF' q.kind) #[vrule q (.slice Ab' q.bytes.length cb') (.slice An' q.names.length cn') (.slice At' q.tags.length ct') (.slice Ak' q.kids.length ck'), vrule p (.slice Ab p.bytes.length cb) (.slice An p.names.length cn) (.slice At p.tags.length ct) (.slice Ak p.kids.length ck)] w (.bool (selfB p q)) := by
  unfold extF' selfB
  split
  · exact partsExt_c q p Ab' cb' An' cn' At' ct' Ak' ck' Ab cb An cn At ct Ak ck w h' h
  · split
    · exact tagsExt_c q p Ab' cb' An' cn' At' ct' Ak' ck' Ab cb An cn At ct Ak ck w h' h
    · exact plainExt_c q p Ab' cb' An' cn' At' ct' Ak' ck' Ab cb An cn At ct Ak ck w h' h hs' hs
theorem eqNms_comm (l l' : List ByteArray) : eqNms l l' = eqNms l' l := by unfold eqNms; rw [Bool.eq_iff_iff]; simp only [beq_iff_eq]; exact eq_comm
theorem kind_cases {q : DRule} (h : 1 ≤ q.kind ∧ q.kind ≤ 10) (h1 : ¬ (q.kind = 4 ∨ q.kind = 5 ∨ q.kind = 6 ∨ q.kind = 8 ∨ q.kind = 9)) (h2 : ¬ q.kind = 7) : q.kind = 1 ∨ q.kind = 2 ∨ q.kind = 3 ∨ q.kind = 10 := by omega
/-- what the program's way of comparing answers -/
theorem cmp_self_no {p q : DRule} (fp : RuleFacts p) (fq : RuleFacts q) (hk : p.kind = q.kind) (E : Nat → Nat → Bool) (h : selfB p q = false) : (extHead p q && extTail E p q) = false := by
  unfold selfB at h
  split at h
  · rename_i h1
    unfold extTail
    rw [if_neg (by omega), eqNms_comm]
    rw [Bool.and_eq_false_iff] at h ⊢
    right
    rw [Bool.and_eq_false_iff]; left
    rw [Bool.and_eq_false_iff]
    rcases h with h | h
    · left; exact h
    · right; simp at h ⊢; omega
  · split at h
    · rename_i h1 h7
      unfold extTail
      rw [if_pos (by omega)]
      have hn : allN p.tags.length (extTag E p q) = false := by
        cases hc : allN p.tags.length (extTag E p q)
        · rfl
        · have : allN p.tags.length (fun t => decide (tagN q.tags (p.tags.getD t 0) < q.tags.length)) = true := allN_yes fun j hj => by
            have := allN_at hc hj
            unfold extTag at this
            rw [Bool.and_eq_true] at this
            exact this.1
          rw [h] at this; cases this
      rw [hn]; simp
    · rename_i h1 h7
      unfold extHead
      have e1 : (p.size == q.size) = (q.size == p.size) := by rw [Bool.eq_iff_iff]; simp; exact eq_comm
      have e2 : (p.little == q.little) = (q.little == p.little) := by rw [Bool.eq_iff_iff]; simp; exact eq_comm
      have e3 : (p.bytes == q.bytes) = (q.bytes == p.bytes) := by rw [Bool.eq_iff_iff]; simp; exact eq_comm
      rw [e1, e2, e3]
      cases g1 : (q.size == p.size)
      · simp
      · cases g2 : (q.little == p.little)
        · simp
        · cases g3 : (q.bytes == p.bytes)
          · simp
          · rw [g1, g2, g3] at h; cases h
theorem head_parts {p q : DRule} (fp : RuleFacts p) (fq : RuleFacts q) (hk : p.kind = q.kind) (h : q.kind = 4 ∨ q.kind = 5 ∨ q.kind = 6 ∨ q.kind = 7 ∨ q.kind = 8 ∨ q.kind = 9) : extHead p q = true := by
  obtain ⟨a1, a2, a3⟩ := fp.parts (by rw [hk]; exact h)
  obtain ⟨b1, b2, b3⟩ := fq.parts h
  unfold extHead
  rw [a1, a2, a3, b1, b2, b3, hk]; simp
theorem cmp_cho {p q : DRule} (fp : RuleFacts p) (fq : RuleFacts q) (hk : p.kind = q.kind) (E : Nat → Nat → Bool) (h : selfB p q = true) (h7 : q.kind = 7) :
    (extHead p q && extTail E p q) = (allN p.tags.length (fun t => E (kd p (t + 1)) (kd q (tagN q.tags (p.tags.getD t 0) + 1))) && E (kd p 0) (kd q 0)) ∧ ∀ t, t < p.tags.length → tagN q.tags (p.tags.getD t 0) < q.tags.length := by
  unfold selfB at h
  rw [if_neg (by omega), if_pos h7] at h
  have hin : ∀ t, t < p.tags.length → tagN q.tags (p.tags.getD t 0) < q.tags.length := fun t ht => by simpa using allN_at h ht
  refine ⟨?_, hin⟩
  rw [head_parts fp fq hk (by omega), Bool.true_and]
  unfold extTail
  rw [if_pos (by omega), Bool.and_comm]
  congr 1
  refine allN_congr fun t ht => ?_
  unfold extTag
  rw [decide_eq_true (hin t ht), Bool.true_and]
theorem cmp_other {p q : DRule} (fp : RuleFacts p) (fq : RuleFacts q) (hk : p.kind = q.kind) (E : Nat → Nat → Bool) (h : selfB p q = true) (h7 : ¬ q.kind = 7) :
    (extHead p q && extTail E p q) = allN q.kids.length (fun t => E (kd p t) (kd q t)) ∧ p.kids.length = q.kids.length := by
  unfold selfB at h
  by_cases h1 : q.kind = 4 ∨ q.kind = 5 ∨ q.kind = 6 ∨ q.kind = 8 ∨ q.kind = 9
  · rw [if_pos h1, Bool.and_eq_true, decide_eq_true_eq] at h
    refine ⟨?_, h.2.symm⟩
    rw [head_parts fp fq hk (by omega), Bool.true_and]
    unfold extTail
    rw [if_neg (by omega), eqNms_comm, h.1, h.2]; simp
  · rw [if_neg h1, if_neg h7] at h
    have hq := kind_cases fq.kind h1 h7
    obtain ⟨b1, b2⟩ := fq.plain hq
    obtain ⟨a1, a2⟩ := fp.plain (by rw [hk]; exact hq)
    have hh : extHead p q = true := by
      simp only [Bool.and_eq_true, beq_iff_eq] at h
      unfold extHead
      rw [hk, h.1, h.2.1, h.2.2]; simp
    refine ⟨?_, by rw [a2, b2]⟩
    rw [hh, Bool.true_and]
    unfold extTail
    rw [if_neg (by omega), a1, b1, a2, b2]; simp [eqNms]
end Go.Proofs.Ytpefbcnfhngggaa
