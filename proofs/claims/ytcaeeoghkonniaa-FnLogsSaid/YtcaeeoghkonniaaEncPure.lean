/- Plain laws of the encoding of records: no program in sight. -/
import Derived.Test.YtcaeeoghkonniaaSum
import Derived.Test.YtcaeeoghkonniaaPackPure
import Derived.Test.YtcaeeoghkonniaaUnpackPure
import Derived.Test.YtcaeeoghkonniaaValidRec
namespace Go.Proofs.Ytcaeeoghkonniaa

/-- the two bytes of a number, the greater first -/
def be2 (n : Nat) : List UInt8 := [UInt8.ofNat (n / 256), UInt8.ofNat n]
/-- the encoding ahead of its last byte -/
def encBody (k : Int) (nm : ByteArray) (ver : Int) (l : List UInt8) : List UInt8 :=
  [UInt8.ofNat k.toNat, UInt8.ofNat nm.size] ++ nm.data.toList ++ [UInt8.ofNat ver.toNat] ++ be2 (pack l).length ++ pack l
def encRec (k : Int) (nm : ByteArray) (ver : Int) (l : List UInt8) : List UInt8 :=
  if validRec k nm ver l.length then encBody k nm ver l ++ [UInt8.ofNat (sumB (encBody k nm ver l))] else []
theorem validRec_facts {k : Int} {nm : ByteArray} {ver : Int} {n : Nat} (h : validRec k nm ver n = true) : 1 ≤ k ∧ k ≤ 2 ∧ 0 ≤ ver ∧ ver ≤ 7 ∧ n ≤ 400 ∧ nm.size ≤ 12 := by
  unfold validRec isName at h; simp at h; omega
theorem encBody_length (k : Int) (nm : ByteArray) (ver : Int) (l : List UInt8) : (encBody k nm ver l).length = nm.size + 5 + (pack l).length := by
  have : nm.data.toList.length = nm.size := by simp
  unfold encBody be2; simp only [List.length_append, List.length_cons, List.length_nil, this]; omega
theorem encRec_length {k : Int} {nm : ByteArray} {ver : Int} {l : List UInt8} (h : validRec k nm ver l.length = true) : (encRec k nm ver l).length = nm.size + 6 + (pack l).length := by
  unfold encRec; rw [if_pos h, List.length_append, encBody_length]; simp; omega
theorem encRec_no {k : Int} {nm : ByteArray} {ver : Int} {l : List UInt8} (h : validRec k nm ver l.length = false) : encRec k nm ver l = [] := by
  unfold encRec; rw [h]; rfl
theorem encRec_le (k : Int) (nm : ByteArray) (ver : Int) (l : List UInt8) : (encRec k nm ver l).length ≤ 818 := by
  cases h : validRec k nm ver l.length
  · rw [encRec_no h]; simp
  · rw [encRec_length h]
    have := validRec_facts h; have := pack_le l; omega

/-- what a record holds -/
structure DRec where
  k : Int
  nm : ByteArray
  ver : Int
  l : List UInt8
def DRec.zero : DRec := ⟨0, ⟨#[]⟩, 0, []⟩
def DRec.enc (r : DRec) : List UInt8 := encRec r.k r.nm r.ver r.l
def DRec.ok (r : DRec) : Bool := validRec r.k r.nm r.ver r.l.length

/-- the length of the name, the length of the packed bytes of a record that begins at an index -/
def nmAt (b : List UInt8) (a : Nat) : Nat := (b.getD (a+1) 0).toNat
def szAt (b : List UInt8) (a : Nat) : Nat := 256 * (b.getD (a + nmAt b a + 3) 0).toNat + (b.getD (a + nmAt b a + 4) 0).toNat
/-- the record's fields over its unpacked bytes -/
def recAt (b : List UInt8) (a : Nat) (d : List UInt8) : DRec :=
  ⟨(b.getD a 0).toNat, ⟨((b.drop (a+2)).take (nmAt b a)).toArray⟩, (b.getD (a + nmAt b a + 2) 0).toNat, d⟩
/-- the record that begins at an index -/
def decN (b : List UInt8) (a : Nat) : Option DRec :=
  if b.length < a + 2 ∨ b.length < a + nmAt b a + 6 ∨ b.length < a + nmAt b a + 6 + szAt b a then none
  else match unpack ((b.drop (a + nmAt b a + 5)).take (szAt b a)) with
    | none => none
    | some d => if (recAt b a d).ok && ((recAt b a d).enc == (b.drop a).take (nmAt b a + 6 + szAt b a)) then some (recAt b a d) else none
def dec (b : List UInt8) (a : Int) : Option DRec := if a < 0 then none else decN b a.toNat
/-- the index behind the record -/
def decEnd (b : List UInt8) (a : Int) : Int := if (dec b a).isSome then a + nmAt b a.toNat + 6 + szAt b a.toNat else a

theorem unpack_nil : unpack [] = some [] := rfl
/-- bytes that cannot be unpacked: no record with the same name and no data has this encoding -/
theorem dec_bad {b : List UInt8} {a : Nat} (h : a + nmAt b a + 6 + szAt b a ≤ b.length) (hu : unpack ((b.drop (a + nmAt b a + 5)).take (szAt b a)) = none) :
    ((recAt b a []).ok && ((recAt b a []).enc == (b.drop a).take (nmAt b a + 6 + szAt b a))) = false := by
  cases hv : (recAt b a []).ok
  · rfl
  · simp only [Bool.true_and, beq_eq_false_iff_ne]
    intro he
    have h1 := congrArg List.length he
    have h2 : (recAt b a []).enc.length = _ := encRec_length hv
    rw [h2] at h1
    have h3 : (recAt b a []).nm.size = nmAt b a := by
      show ((b.drop (a+2)).take (nmAt b a)).toArray.size = _
      simp; omega
    rw [h3] at h1
    have h4 : (pack (recAt b a []).l).length = 0 := rfl
    rw [h4, List.length_take, List.length_drop] at h1
    have h5 : szAt b a = 0 := by omega
    rw [h5, List.take_zero, unpack_nil] at hu
    cases hu
/-- the reference's reading: the unpacked bytes, or none -/
theorem decN_spec {b : List UInt8} {a : Nat} (h : a + nmAt b a + 6 + szAt b a ≤ b.length) :
    decN b a = if (recAt b a ((unpack ((b.drop (a + nmAt b a + 5)).take (szAt b a))).getD [])).ok && ((recAt b a ((unpack ((b.drop (a + nmAt b a + 5)).take (szAt b a))).getD [])).enc == (b.drop a).take (nmAt b a + 6 + szAt b a)) then some (recAt b a ((unpack ((b.drop (a + nmAt b a + 5)).take (szAt b a))).getD [])) else none := by
  unfold decN
  rw [if_neg (by omega)]
  cases hu : unpack ((b.drop (a + nmAt b a + 5)).take (szAt b a)) with
  | none => rw [Option.getD_none, dec_bad h hu]; rfl
  | some d => rfl
theorem decN_some {b : List UInt8} {a : Nat} {r : DRec} (h : decN b a = some r) : a + nmAt b a + 6 + szAt b a ≤ b.length ∧ r.ok = true ∧ r.enc = (b.drop a).take (nmAt b a + 6 + szAt b a) ∧ unpack ((b.drop (a + nmAt b a + 5)).take (szAt b a)) = some r.l ∧ r = recAt b a r.l := by
  unfold decN at h
  split at h
  · cases h
  · rename_i hc
    split at h
    · cases h
    · rename_i d hd
      split at h
      · rename_i hb
        injection h with h
        subst h
        rw [Bool.and_eq_true, beq_iff_eq] at hb
        exact ⟨by omega, hb.1, hb.2, hd, rfl⟩
      · cases h
end Go.Proofs.Ytcaeeoghkonniaa
