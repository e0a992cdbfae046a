/- Plain laws of logs that are crashed, appended to and stored. -/
import Derived.Test.YtcaeeoghkonniaaLogsPure
import Derived.Test.YtcaeeoghkonniaaStoreLog
import Derived.Test.YtcaeeoghkonniaaAppend
namespace Go.Proofs.Ytcaeeoghkonniaa

theorem crash_facts {l : List UInt8} {s : Int} (k : Int) (hv : validLog l s = true) :
    recs (l.take (crashEnd l s k)) 0 <+: recs l 0 ∧ recs (l.take s.toNat) 0 <+: recs (l.take (crashEnd l s k)) 0 ∧ validLog (l.take (crashEnd l s k)) (crashAt l s k) = true ∧ ((l.take (crashEnd l s k)).length : Int) = crashAt l s k := by
  obtain ⟨h0, h1, h2, h3⟩ := validLog_facts hv
  have hk : keptOf l s k ≤ l.length ∧ s.toNat ≤ keptOf l s k := by unfold keptOf; omega
  unfold crashEnd crashAt
  rw [if_pos hv, if_pos hv]
  generalize keptOf l s k = m at *
  have hl : (l.take m).length = m := by rw [List.length_take]; omega
  have hE := stop_le (b := l.take m) (a := 0) (by omega)
  have hc := stop_cut (b := l.take m) _ 0 (Nat.le_refl _) (by omega)
  have hsm := stop_mono (b := l.take m) (s := s.toNat) (by omega) _ 0 (Nat.le_refl _) (by omega)
  rw [List.take_take, Nat.min_eq_left (by omega), h3] at hsm
  generalize stop (l.take m) 0 = E at *
  rw [List.take_take, Nat.min_eq_left (by omega)] at hc
  have hEl : (l.take E).length = E := by rw [List.length_take]; omega
  refine ⟨recs_take (by omega) _ 0 (Nat.le_refl _), ?_, ?_, by omega⟩
  · have := recs_take (b := l.take E) (s := s.toNat) (by omega) _ 0 (Nat.le_refl _)
    rwa [List.take_take, Nat.min_eq_left (by omega)] at this
  · rw [validLog_eq (by omega)]
    unfold endsAt
    rw [List.take_take, Nat.min_self, hc.2, hEl]
    simp
theorem crash_bad {l : List UInt8} {s : Int} (k : Int) (hv : validLog l s = false) : crashEnd l s k = l.length ∧ crashAt l s k = s := by
  unfold crashEnd crashAt; rw [hv]; exact ⟨rfl, rfl⟩
theorem app_facts {l : List UInt8} {s : Int} (hv : validLog l s = true) (k : Int) (nm : ByteArray) (ver : Int) (d : List UInt8) :
    (recs (appBytes l s k nm ver d) 0).length = (recs l 0).length + (if validRec k nm ver d.length then 1 else 0) ∧ validLog (appBytes l s k nm ver d) s = true ∧ appOk l s k nm ver d = validRec k nm ver d.length := by
  have ho : appOk l s k nm ver d = validRec k nm ver d.length := by unfold appOk; rw [hv]; simp
  obtain ⟨h0, h1, h2, h3⟩ := validLog_facts hv
  refine ⟨?_, ?_, ho⟩
  · unfold appBytes
    rw [ho]
    cases hr : validRec k nm ver d.length
    · simp
    · obtain ⟨e1, e2⟩ := decN_enc l hr
      have h4 := read_app (b := l) (c := encRec k nm ver d) _ 0 (Nat.le_refl _) (by omega) h2
      have h5 := read_some e1
      rw [e2] at h5
      have h6 := read_none (decN_out (b := l ++ encRec k nm ver d) (a := l.length + (encRec k nm ver d).length) (by rw [List.length_append]; omega))
      rw [if_pos rfl, if_pos rfl, h4.1, h5.1, h6.1]
      simp
  · unfold appBytes
    rw [ho]
    cases hr : validRec k nm ver d.length
    · simpa using hv
    · obtain ⟨e1, e2⟩ := decN_enc l hr
      have h4 := read_app (b := l) (c := encRec k nm ver d) _ 0 (Nat.le_refl _) (by omega) h2
      have h5 := read_some e1
      rw [e2] at h5
      have h6 := read_none (decN_out (b := l ++ encRec k nm ver d) (a := l.length + (encRec k nm ver d).length) (by rw [List.length_append]; omega))
      rw [if_pos rfl]
      obtain ⟨t, rfl⟩ : ∃ t : Nat, s = t := ⟨s.toNat, by omega⟩
      rw [Int.toNat_natCast] at h3
      rw [validLog_eq (by rw [List.length_append]; omega)]
      unfold endsAt
      rw [h4.2, h5.2, h6.2, List.take_append_of_le_length (by omega), h3]
      simp
theorem store_crash {g : List UInt8} {s : Int} (hv : validLog g s = true) : storeAt g s = g.length ∧ crashEnd g (g.length : Int) 0 = g.length ∧ crashAt g (g.length : Int) 0 = g.length := by
  obtain ⟨h0, h1, h2, h3⟩ := validLog_facts hv
  have hv2 : validLog g (g.length : Int) = true := by
    rw [validLog_eq (Nat.le_refl _)]
    unfold endsAt
    rw [List.take_length, h2]; simp
  have hk : keptOf g (g.length : Int) 0 = g.length := by unfold keptOf; omega
  unfold storeAt crashEnd crashAt
  rw [if_pos hv, if_pos hv2, if_pos hv2, hk, List.take_length, h2]
  exact ⟨rfl, rfl, rfl⟩
end Go.Proofs.Ytcaeeoghkonniaa
