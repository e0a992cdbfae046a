/- Plain laws of logs: cut logs hold the first records; an appended record is read back. No program in sight. -/
import Derived.Test.YtcaeeoghkonniaaReadPure
import Derived.Test.YtcaeeoghkonniaaPackLaw
namespace Go.Proofs.Ytcaeeoghkonniaa

theorem sizeAt_take {b : List UInt8} {s a : Nat} (h : a + sizeAt b a ≤ s) : sizeAt (b.take s) a = sizeAt b a := by
  unfold sizeAt at h ⊢
  rw [nmAt_take (by omega), szAt_take (by omega)]
/-- a cut list's records are the first ones -/
theorem recs_take {b : List UInt8} {s : Nat} (hs : s ≤ b.length) : ∀ n a, b.length - a ≤ n → recs (b.take s) a <+: recs b a := by
  intro n
  induction n with
  | zero =>
    intro a h
    rw [(read_none (decN_out (b := b.take s) (a := a) (by rw [List.length_take]; omega))).1]
    exact List.nil_prefix
  | succ n ih =>
    intro a h
    cases hd : decN (b.take s) a with
    | none => rw [(read_none hd).1]; exact List.nil_prefix
    | some r =>
      obtain ⟨h1, h2⟩ := decN_take_some hs hd
      have hf := decN_fits h1
      rw [(read_some hd).1, (read_some h1).1, sizeAt_take h2, List.cons_prefix_cons]
      exact ⟨rfl, ih _ (by omega)⟩
theorem stop_mono {b : List UInt8} {s : Nat} (hs : s ≤ b.length) : ∀ n a, b.length - a ≤ n → a ≤ b.length → stop (b.take s) a ≤ stop b a := by
  intro n
  induction n with
  | zero =>
    intro a h h2
    rw [(read_none (decN_out (b := b.take s) (a := a) (by rw [List.length_take]; omega))).2]
    exact (stop_le h2).2
  | succ n ih =>
    intro a h h2
    cases hd : decN (b.take s) a with
    | none => rw [(read_none hd).2]; exact (stop_le h2).2
    | some r =>
      obtain ⟨h3, h4⟩ := decN_take_some hs hd
      have hf := decN_fits h3
      rw [(read_some hd).2, (read_some h3).2, sizeAt_take h4]
      exact ih _ (by omega) (by omega)
/-- what is behind the stop changes nothing -/
theorem stop_cut {b : List UInt8} : ∀ n a, b.length - a ≤ n → a ≤ b.length → recs (b.take (stop b a)) a = recs b a ∧ stop (b.take (stop b a)) a = stop b a := by
  intro n
  induction n with
  | zero =>
    intro a h h2
    have h0 := read_none (decN_out (b := b) (a := a) (by omega))
    rw [h0.1, h0.2]
    exact read_none (decN_out (by rw [List.length_take]; omega))
  | succ n ih =>
    intro a h h2
    cases hd : decN b a with
    | none =>
      have h0 := read_none hd
      rw [h0.1, h0.2]
      exact read_none (decN_out (by rw [List.length_take]; omega))
    | some r =>
      have hf := decN_fits hd
      have h3 := read_some hd
      have h4 := ih (a + sizeAt b a) (by omega) (by omega)
      have h5 := stop_le (b := b) (a := a + sizeAt b a) (by omega)
      rw [h3.1, h3.2]
      have hd' := (decN_take_eq (s := stop b (a + sizeAt b a)) h5.1 h5.2).trans hd
      have h6 := read_some hd'
      rw [sizeAt_take h5.2] at h6
      rw [h6.1, h6.2, h4.1, h4.2]
      exact ⟨rfl, rfl⟩
/-- behind a list that is read to its end -/
theorem read_app {b c : List UInt8} : ∀ n a, b.length - a ≤ n → a ≤ b.length → stop b a = b.length → recs (b ++ c) a = recs b a ++ recs (b ++ c) b.length ∧ stop (b ++ c) a = stop (b ++ c) b.length := by
  intro n
  induction n with
  | zero =>
    intro a h h2 _
    obtain rfl : a = b.length := by omega
    rw [(read_none (decN_out (b := b) (a := b.length) (by omega))).1]
    exact ⟨rfl, rfl⟩
  | succ n ih =>
    intro a h h2 hst
    cases hd : decN b a with
    | none =>
      have h0 := read_none hd
      rw [h0.2] at hst
      subst hst
      rw [h0.1]
      exact ⟨rfl, rfl⟩
    | some r =>
      have hf := decN_fits hd
      have hb : (b ++ c).take b.length = b := by simp
      have hd2 : decN ((b ++ c).take b.length) a = some r := by rw [hb]; exact hd
      obtain ⟨h3, h4⟩ := decN_take_some (by simp) hd2
      have h5 := sizeAt_take h4
      rw [hb] at h5
      have h6 := read_some hd
      have h7 := read_some h3
      rw [h6.2] at hst
      have h8 := ih (a + sizeAt b a) (by omega) (by omega) hst
      rw [← h5] at h7
      rw [h6.1, h7.1, h7.2, h8.1, h8.2]
      exact ⟨rfl, rfl⟩
theorem getD_app {b e : List UInt8} (i : Nat) : (b ++ e).getD (b.length + i) 0 = e.getD i 0 := by
  simp [List.getD, List.getElem?_append_right]
theorem ofNat_lt {n : Nat} (h : n < 256) : (UInt8.ofNat n).toNat = n := ofNat_toNat_lt h
/-- an encoded record is read back -/
theorem decN_enc {k : Int} {nm : ByteArray} {ver : Int} {l : List UInt8} (b : List UInt8) (h : validRec k nm ver l.length = true) :
    decN (b ++ encRec k nm ver l) b.length = some ⟨k, nm, ver, l⟩ ∧ sizeAt (b ++ encRec k nm ver l) b.length = (encRec k nm ver l).length := by
  have hf := validRec_facts h
  have hp := pack_short l
  have hup := unpack_pack l (by omega)
  have hlen := encRec_length h
  have hz : nm.data.toList.length = nm.size := by simp
  have he : encRec k nm ver l = [UInt8.ofNat k.toNat, UInt8.ofNat nm.size] ++ (nm.data.toList ++ ([UInt8.ofNat ver.toNat, UInt8.ofNat ((pack l).length / 256), UInt8.ofNat (pack l).length] ++ (pack l ++ [UInt8.ofNat (sumB (encBody k nm ver l))]))) := by
    unfold encRec; rw [if_pos h]
    conv => lhs; arg 1; unfold encBody be2
    simp [List.append_assoc]
  have henc : (DRec.mk k nm ver l).enc = encRec k nm ver l := rfl
  generalize hS : UInt8.ofNat (sumB (encBody k nm ver l)) = S at he
  generalize pack l = p at *
  have n0 : (b ++ encRec k nm ver l).getD b.length 0 = UInt8.ofNat k.toNat := by
    have := getD_app (b := b) (e := encRec k nm ver l) 0; rw [Nat.add_zero] at this; rw [this, he]; rfl
  have n1 : nmAt (b ++ encRec k nm ver l) b.length = nm.size := by
    unfold nmAt; rw [getD_app, he]; exact ofNat_lt (by omega)
  have g3 : ∀ j, (encRec k nm ver l).getD (nm.size + 2 + j) 0 = ([UInt8.ofNat ver.toNat, UInt8.ofNat (p.length / 256), UInt8.ofNat p.length] ++ (p ++ [S])).getD j 0 := by
    intro j
    rw [he]
    simp only [List.getD]
    rw [List.getElem?_append_right (by simp; omega), List.getElem?_append_right (by simp; omega)]
    congr 2
    simp; omega
  have n2 : szAt (b ++ encRec k nm ver l) b.length = p.length := by
    unfold szAt
    rw [n1, show b.length + nm.size + 3 = b.length + (nm.size + 2 + 1) by omega, show b.length + nm.size + 4 = b.length + (nm.size + 2 + 2) by omega, getD_app, getD_app, g3, g3]
    show 256 * (UInt8.ofNat (p.length / 256)).toNat + (UInt8.ofNat p.length).toNat = p.length
    rw [UInt8.toNat_ofNat', UInt8.toNat_ofNat']; omega
  have n3 : (b ++ encRec k nm ver l).getD (b.length + nm.size + 2) 0 = UInt8.ofNat ver.toNat := by
    rw [show b.length + nm.size + 2 = b.length + (nm.size + 2 + 0) by omega, getD_app, g3]; rfl
  have n4 : ((b ++ encRec k nm ver l).drop (b.length + nm.size + 5)).take p.length = p := by
    rw [Nat.add_assoc, List.drop_append, List.drop_eq_nil_of_le (by omega), List.nil_append, Nat.add_sub_cancel_left, he]
    rw [List.drop_append, List.drop_eq_nil_of_le (by simp), List.nil_append, List.drop_append, List.drop_eq_nil_of_le (by simp), List.nil_append, List.drop_append, List.drop_eq_nil_of_le (by simp), List.nil_append]
    have : nm.size + 5 - [UInt8.ofNat k.toNat, UInt8.ofNat nm.size].length - nm.data.toList.length - [UInt8.ofNat ver.toNat, UInt8.ofNat (p.length / 256), UInt8.ofNat p.length].length = 0 := by simp
    rw [this, List.drop_zero, List.take_append_of_le_length (Nat.le_refl _), List.take_length]
  have n5 : ((b ++ encRec k nm ver l).drop (b.length + 2)).take nm.size = nm.data.toList := by
    rw [List.drop_append, List.drop_eq_nil_of_le (by omega), List.nil_append, Nat.add_sub_cancel_left, he]
    rw [List.drop_append, List.drop_eq_nil_of_le (by simp), List.nil_append]
    have : 2 - [UInt8.ofNat k.toNat, UInt8.ofNat nm.size].length = 0 := by simp
    rw [this, List.drop_zero, List.take_append_of_le_length (by omega), ← hz, List.take_length]
  have n6 : ((b ++ encRec k nm ver l).drop b.length).take (nm.size + 6 + p.length) = encRec k nm ver l := by
    rw [List.drop_append, List.drop_eq_nil_of_le (by omega), List.nil_append, Nat.sub_self, List.drop_zero, ← hlen, List.take_length]
  have hr : recAt (b ++ encRec k nm ver l) b.length l = ⟨k, nm, ver, l⟩ := by
    unfold recAt
    rw [n1, n0, n3, n5, ofNat_lt (by omega), ofNat_lt (by omega)]
    simp; omega
  refine ⟨?_, ?_⟩
  · unfold decN
    rw [n1, n2, if_neg (by rw [List.length_append, hlen]; omega), n4, hup]
    simp only [hr, henc, n6]
    have : (DRec.mk k nm ver l).ok = true := h
    rw [this]; simp
  · unfold sizeAt; rw [n1, n2, hlen]
end Go.Proofs.Ytcaeeoghkonniaa
