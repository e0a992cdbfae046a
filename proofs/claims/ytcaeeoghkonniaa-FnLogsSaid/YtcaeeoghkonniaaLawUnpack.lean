/- The walk of the law on UnpackBytes. -/
import Derived.Test.YtcaeeoghkonniaaBytes
import Derived.Test.YtcaeeoghkonniaaUnpack
namespace Go.Proofs.Ytcaeeoghkonniaa
open Go.RowKit Go.Sort

theorem unpackF_le : ∀ f b out o, unpackF f b out = some o → out.length ≤ 1000 → o.length ≤ 1000 := by
  intro f
  induction f with
  | zero => intro b out o h hl; cases b with
    | nil => simp only [unpackF, Option.some.injEq] at h; subst h; exact hl
    | cons => simp [unpackF] at h
  | succ f ih =>
    intro b out o h hl
    cases b with
    | nil => simp only [unpackF, Option.some.injEq] at h; subst h; exact hl
    | cons x t =>
      simp only [unpackF] at h
      split at h
      · cases h
      · split at h
        · split at h
          · cases h
          · split at h
            · cases h
            · exact ih _ _ _ h (by omega)
        · split at h
          · cases h
          · exact ih _ _ _ h (by omega)
theorem unpack_le (l : List UInt8) : ((unpack l).getD []).length ≤ 1000 := by
  cases h : unpack l with
  | none => simp
  | some o => exact unpackF_le _ _ _ _ h (by simp)

end Go.Proofs.Ytcaeeoghkonniaa
