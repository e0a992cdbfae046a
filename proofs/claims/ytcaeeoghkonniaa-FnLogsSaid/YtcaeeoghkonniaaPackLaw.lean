/- Plain laws: packed bytes are unpacked, and are never much longer. No program in sight. -/
import Derived.Test.YtcaeeoghkonniaaPackPure
import Derived.Test.YtcaeeoghkonniaaUnpackPure
namespace Go.Proofs.Ytcaeeoghkonniaa

theorem take_replicate_of {l : List UInt8} {a M : Nat} (ha : a < l.length) (h : ∀ j, j < M → l[a+j]? = l[a]?) : (l.drop a).take M = List.replicate M l[a] := by
  have hx : l[a]? = some l[a] := by simp [ha]
  rw [hx] at h
  have hM : ∀ j, j < M → a + j < l.length := fun j hj => by
    have := h j hj
    rcases Nat.lt_or_ge (a + j) l.length with h' | h'
    · exact h'
    · rw [List.getElem?_eq_none h'] at this; cases this
  have hMl : M ≤ l.length - a := by
    rcases Nat.eq_zero_or_pos M with h0 | h0
    · omega
    · have := hM (M - 1) (by omega); omega
  apply List.ext_getElem?
  intro j
  rw [List.getElem?_take, List.getElem?_replicate]
  by_cases hj : j < M
  · rw [if_pos hj, if_pos hj, List.getElem?_drop, h j hj]
  · rw [if_neg hj, if_neg hj]
theorem ofNat_toNat_lt {n : Nat} (h : n < 256) : (UInt8.ofNat n).toNat = n := by rw [UInt8.toNat_ofNat']; omega
theorem unpackF_run {f : Nat} {x y : UInt8} {t out : List UInt8} (h : 128 < x.toNat) (hl : out.length + (x.toNat - 128) ≤ 1000) :
    unpackF (f + 1) (x :: y :: t) out = unpackF f t (out ++ List.replicate (x.toNat - 128) y) := by
  have h0 : ¬ (x = 0 ∨ x = 128 ∨ (y :: t) = []) := by
    rintro (h0 | h0 | h0)
    · subst h0; simp at h
    · subst h0; simp at h
    · cases h0
  have h1 : ¬ x < 128 := by rw [UInt8.lt_iff_toNat_lt]; simp; omega
  rw [unpackF, if_neg h0, if_neg h1, if_neg (by rw [List.length_append, List.length_replicate]; simpa using hl)]
  rfl
theorem unpackF_lit {f : Nat} {x : UInt8} {p t out : List UInt8} (h0 : 0 < x.toNat) (h : x.toNat < 128) (hp : p.length = x.toNat) (hl : out.length + x.toNat ≤ 1000) :
    unpackF (f + 1) (x :: (p ++ t)) out = unpackF f t (out ++ p) := by
  have h1 : ¬ (x = 0 ∨ x = 128 ∨ (p ++ t) = []) := by
    rintro (h1 | h1 | h1)
    · subst h1; simp at h0
    · subst h1; simp at h
    · have := congrArg List.length h1; simp only [List.length_append, List.length_nil] at this; omega
  have h2 : x < 128 := by rw [UInt8.lt_iff_toNat_lt]; simpa using h
  have e1 : (p ++ t).take x.toNat = p := by rw [← hp]; simp
  have e2 : (p ++ t).drop x.toNat = t := by rw [← hp]; simp
  have h3 : ¬ (p ++ t).length < x.toNat := by rw [List.length_append]; omega
  have h4 : ¬ 1000 < (out ++ p).length := by rw [List.length_append]; omega
  rw [unpackF, if_neg h1, if_pos h2, if_neg h3, e1, e2, if_neg h4]
theorem unpackF_pack (l : List UInt8) (hl : l.length ≤ 1000) : ∀ n a f, l.length - a ≤ n → a ≤ l.length → (packAt l a).length ≤ f → unpackF f (packAt l a) (l.take a) = some l := by
  intro n
  induction n with
  | zero =>
    intro a f h1 h2 _
    obtain rfl : a = l.length := by omega
    rw [packAt_end (Nat.le_refl _), List.take_length]
    cases f <;> rfl
  | succ n ih =>
    intro a f h1 h2 hf
    by_cases ha : a < l.length
    · obtain ⟨r1, r2, r3, _⟩ := runAt_spec l a ha
      by_cases hr : 3 ≤ runAt l a
      · rw [packAt_run ha hr] at hf ⊢
        generalize hM : min (runAt l a) 127 = M at *
        have hx : (UInt8.ofNat (128 + M)).toNat = 128 + M := ofNat_toNat_lt (by omega)
        obtain ⟨f, rfl⟩ : ∃ g, f = g + 1 := ⟨f - 1, by simp at hf; omega⟩
        have e1 : 128 + M - 128 = M := by omega
        rw [unpackF_run (by rw [hx]; omega) (by rw [hx, List.length_take]; omega), hx, e1]
        rw [← take_replicate_of ha (fun j hj => r3 j (by omega)), ← List.take_add]
        exact ih (a + M) f (by omega) (by omega) (by simp at hf; omega)
      · rw [packAt_lit ha hr] at hf ⊢
        have h3 := litEnd_ge l a (a+1)
        have h4 := litEnd_le (l := l) (a := a) (k := a+1) (by omega) (by omega)
        rw [← litEnd_gt ha (by omega)] at h3 h4
        generalize litEnd l a a = E at *
        have hx : (UInt8.ofNat (E - a)).toNat = E - a := ofNat_toNat_lt (by omega)
        obtain ⟨f, rfl⟩ : ∃ g, f = g + 1 := ⟨f - 1, by simp at hf; omega⟩
        rw [unpackF_lit (by rw [hx]; omega) (by rw [hx]; omega) (by rw [hx, List.length_take, List.length_drop]; omega) (by rw [hx, List.length_take]; omega)]
        rw [← List.take_add, show a + (E - a) = E by omega]
        exact ih E f (by omega) (by omega) (by simp at hf; omega)
    · obtain rfl : a = l.length := by omega
      rw [packAt_end (Nat.le_refl _), List.take_length]
      cases f <;> rfl
/-- packed bytes are unpacked -/
theorem unpack_pack (l : List UInt8) (hl : l.length ≤ 1000) : unpack (pack l) = some l := by
  have := unpackF_pack l hl l.length 0 (pack l).length (by omega) (by omega) (Nat.le_refl _)
  simpa [unpack, pack] using this
theorem packAt_short (l : List UInt8) : ∀ n a, l.length - a ≤ n → a ≤ l.length → (packAt l a).length ≤ (l.length - a) + (l.length - a) / 127 + 1 := by
  intro n
  induction n using Nat.strongRecOn with
  | _ n ih =>
    intro a h1 h2
    by_cases ha : a < l.length
    · obtain ⟨r1, r2, r3, _⟩ := runAt_spec l a ha
      by_cases hr : 3 ≤ runAt l a
      · rw [packAt_run ha hr]
        generalize hM : min (runAt l a) 127 = M at *
        have := ih (l.length - (a + M)) (by omega) (a + M) (by omega) (by omega)
        simp only [List.length_cons]
        omega
      · rw [packAt_lit ha hr]
        have h3 := litEnd_ge l a (a+1)
        have h4 := litEnd_le (l := l) (a := a) (k := a+1) (by omega) (by omega)
        rw [← litEnd_gt ha (by omega)] at h3 h4
        have hstop := litEnd_final l a
        generalize litEnd l a a = E at *
        simp only [List.length_cons, List.length_append, List.length_take, List.length_drop]
        by_cases hE : E < l.length
        · by_cases hE2 : E - a < 127
          · have hr2 : 3 ≤ runAt l E := by
              rcases Nat.lt_or_ge (runAt l E) 3 with h | h
              · exact absurd ⟨hE, hE2, h⟩ (hstop ha (by omega))
              · exact h
            obtain ⟨q1, q2, _, _⟩ := runAt_spec l E hE
            rw [packAt_run hE hr2]
            generalize hM : min (runAt l E) 127 = M at *
            have := ih (l.length - (E + M)) (by omega) (E + M) (by omega) (by omega)
            simp only [List.length_cons]
            omega
          · have := ih (l.length - E) (by omega) E (by omega) (by omega)
            omega
        · obtain rfl : E = l.length := by omega
          rw [packAt_end (Nat.le_refl _)]
          simp
    · rw [packAt_end (by omega)]; simp
where
  litEnd_final (l : List UInt8) (a : Nat) : a < l.length → runAt l a < 3 → ¬ (litEnd l a a < l.length ∧ litEnd l a a - a < 127 ∧ runAt l (litEnd l a a) < 3) := by
    intro ha _
    have key : ∀ f k, l.length - k ≤ f → k ≤ l.length → ¬ (litF l a f k < l.length ∧ litF l a f k - a < 127 ∧ runAt l (litF l a f k) < 3) := by
      intro f
      induction f with
      | zero => intro k h1 h2; rw [litF]; omega
      | succ f ih =>
        intro k h1 h2
        rw [litF]
        by_cases hc : k < l.length ∧ k - a < 127 ∧ runAt l k < 3
        · rw [if_pos hc]; exact ih (k+1) (by omega) (by omega)
        · rw [if_neg hc]; exact hc
    exact key (l.length - a) a (Nat.le_refl _) (by omega)
theorem pack_short (l : List UInt8) : (pack l).length ≤ l.length + l.length / 127 + 1 := packAt_short l l.length 0 (by omega) (by omega)
end Go.Proofs.Ytcaeeoghkonniaa
