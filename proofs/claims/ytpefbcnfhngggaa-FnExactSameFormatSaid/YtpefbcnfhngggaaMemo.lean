/- A map of pairs of numbers to what a function says of them. -/
import Derived.Test.YtpefbcnfhngggaaBase
import Derived.Maps.OwnOps
import Derived.Maps.Views
import Derived.DeepKeys4
namespace Go.Proofs.Ytpefbcnfhngggaa
open Go.RowKit Go.Sort
open Go.Maps (Keyed)

theorem run_lookup_ok {H : Type} {P : Program} {w : World} {k e t : TypeId} {b n : Nat} {D : DataW H} (K : Keyed P k) (ht : P.underlying t = some (.map k e)) (he : P.underlying e = some .bool)
    (hz : (zeroValue e).run P w = .ok (.bool false) w) (hown : w.ownsMap P k (plainElem P e) b n D) {key : Value} {kl : Lit} (hkey : keyOf P k key = some kl) :
    ((Instr.lookup t (.map (some b)) key true).run P w = .ok (.tuple #[.bool false, .bool false]) w ∧ Maps.has D kl = false) ∨
    ∃ c, (Instr.lookup t (.map (some b)) key true).run P w = .ok (.tuple #[.bool c, .bool true]) w ∧ Maps.has D kl = true ∧ ∀ z, D.atKey kl z = .lit (.bool c) := by
  obtain ⟨es, clock, hb, F, _, rfl⟩ := hown
  rcases Maps.fit_look true K ht hz hb F hkey with ⟨hrun, _, hat⟩ | ⟨e0, y, _, _, hrun, hRv, hat, _⟩
  · exact .inl ⟨hrun, Maps.has_false_of_atKey hat⟩
  · right
    have hc : ∃ c, e0.val = .bool c ∧ y = (.lit (.bool c), []) := by
      unfold plainElem at hRv
      rw [he] at hRv
      cases hv : e0.val <;> rw [hv] at hRv <;> simp at hRv
      exact ⟨_, rfl, hRv.symm⟩
    obtain ⟨c, h1, h2⟩ := hc
    rw [h1] at hrun
    subst h2
    exact ⟨c, hrun, Maps.has_true_of_atKey hat, hat⟩
/-- v, ok := m[k], elements bool -/
theorem wpList_lookup_ok {H : Type} {P : Program} (w : World) {ops : Array Oper} {rest : List Oper} {o : Oper} {a : Act} {Q : Exit → Act → World → Prop}
    (hg : o.guard = none) (m x : Operand) (t : TypeId) (hop : o.op = Op.lookup t m x true)
    (k e : TypeId) (K : Keyed P k) (ht : P.underlying t = some (.map k e)) (he : P.underlying e = some .bool) (hz : (zeroValue e).run P w = .ok (.bool false) w) (b n : Nat) (D : DataW H)
    (hm : a.eval m = .map (some b)) (hown : w.ownsMap P k (plainElem P e) b n D) (key : Value) (kl : Lit) (hx : a.eval x = key) (hkey : keyOf P k key = some kl)
    (hno : Maps.has D kl = false → wpList P ops Q rest (a.put o.dst (.tuple #[.bool false, .bool false])) w)
    (hyes : ∀ c : Bool, Maps.has D kl = true → (∀ z, D.atKey kl z = .lit (.bool c)) → wpList P ops Q rest (a.put o.dst (.tuple #[.bool c, .bool true])) w) :
    wpList P ops Q (o :: rest) a w := by
  refine wpList_plain hg fun K' hK' => ?_
  rcases run_lookup_ok K ht he hz hown hkey with ⟨hrun, h1⟩ | ⟨c, hrun, h1, h2⟩
  · unfold Oper.wp
    simp [execOp, hop, hm, hx, hrun, Result.andThen]
    exact hK' _ _ (hno h1)
  · unfold Oper.wp
    simp [execOp, hop, hm, hx, hrun, Result.andThen]
    exact hK' _ _ (hyes c h1 h2)
end Go.Proofs.Ytpefbcnfhngggaa
namespace Go.Proofs.Ytpefbcnfhngggaa
/-- a pair of ints as a key -/
def pairV (x y : Int) : Value := .agg #[.int .i64 x, .int .i64 y]
theorem keyOf_pair {P : Program} {k e : TypeId} (hk : P.underlying k = some (.array 2 e)) (he : P.underlying e = some (.int .i64)) (hkt : P.keyType k = true) (hc : P.cellsOf k = 2) (hce : P.cellsOf e = 1)
    (hsz : 0 < P.types.size) {x y : Int} (hx : (Lit.int .i64 x).wf = true) (hy : (Lit.int .i64 y).wf = true) : keyOf P k (pairV x y) = some (.string (keyBytes [.int .i64 x, .int .i64 y])) := by
  have hf : (pairV x y).formed P k = true := by simp [pairV, Value.formed, hk, hc]
  have hcs : (pairV x y).cells = #[.int .i64 x, .int .i64 y] := rfl
  unfold keyOf
  simp only [hk]
  rw [if_pos (by rw [hkt, hf]; rfl), hcs]
  obtain ⟨n, hn⟩ : ∃ n, P.types.size = n + 1 := ⟨P.types.size - 1, by omega⟩
  rw [hn]
  have h1 : P.keyLits (n + 1 + 1) k [.int .i64 x, .int .i64 y] = some [.int .i64 x, .int .i64 y] := by
    have e0 : P.keyLits (n + 1) e [.int .i64 x] = some [.int .i64 x] := by unfold Program.keyLits; simp only [he]; rw [if_pos ⟨trivial, hx⟩]
    have e1 : P.keyLits (n + 1) e [.int .i64 y] = some [.int .i64 y] := by unfold Program.keyLits; simp only [he]; rw [if_pos ⟨trivial, hy⟩]
    unfold Program.keyLits
    simp only [hk]
    rw [if_pos (by rw [hc]; rfl)]
    simp [List.range, List.range.loop, List.mapM_cons, hce, e0, e1]
  simp [h1]

theorem nodup_lt (N : Nat) : ∀ l : List Nat, l.Nodup → (∀ x ∈ l, x < N) → l.length ≤ N := by
  induction N with
  | zero => intro l _ h; cases l with
    | nil => simp
    | cons a t => have := h a (by simp); omega
  | succ N ih =>
    intro l hn h
    by_cases hm : N ∈ l
    · have h1 := List.length_erase_of_mem hm
      have h2 := ih (l.erase N) (hn.erase N) (fun x hx => by
        have h3 := (hn.mem_erase_iff).1 hx
        have := h x h3.2
        omega)
      omega
    · have := ih l hn (fun x hx => by
        have h1 := h x hx
        have h2 : x ≠ N := fun e => hm (e ▸ hx)
        omega)
      omega
/-- pairs in a grid, each once -/
theorem pairs_len {m n : Nat} (l : List (Nat × Nat)) (hn : l.Nodup) (h : ∀ p ∈ l, p.1 < m ∧ p.2 < n) : l.length ≤ m * n := by
  have h1 := nodup_lt (m * n) (l.map fun p => p.1 * n + p.2) (by
    refine List.Pairwise.map _ ?_ (List.Pairwise.and_mem.1 hn)
    rintro ⟨a, b⟩ ⟨c, d⟩ ⟨h1, h2, h3⟩ he
    have g1 := h _ h1; have g2 := h _ h2
    simp only at g1 g2 he
    apply h3
    have hac : a = c := by
      rcases Nat.lt_trichotomy a c with hl | hl | hl
      · have : (a + 1) * n ≤ c * n := Nat.mul_le_mul_right n hl
        rw [Nat.add_mul] at this; omega
      · exact hl
      · have : (c + 1) * n ≤ a * n := Nat.mul_le_mul_right n hl
        rw [Nat.add_mul] at this; omega
    subst hac
    have : b = d := by omega
    rw [this]) (fun x hx => by
      obtain ⟨⟨a, b⟩, hp, rfl⟩ := List.mem_map.1 hx
      have g := h _ hp
      simp only at g ⊢
      have : (a + 1) * n ≤ m * n := Nat.mul_le_mul_right n g.1
      rw [Nat.add_mul] at this; omega)
  simpa using h1
/-- the memo: the pairs of S are known, and rightly -/
structure Memo (P : Program) (k e : TypeId) (f : Nat → Nat → Bool) (m n : Nat) (w : World) (b : Nat) (S : List (Nat × Nat)) : Prop where
  own : ∃ D : DataW Unit, w.ownsMap P k (plainElem P e) b S.length D ∧ Maps.IsMap D ∧ ∀ x y kl, x < m → y < n → keyOf P k (pairV x y) = some kl → (Maps.has D kl = true ↔ (x, y) ∈ S) ∧ ((x, y) ∈ S → ∀ z, D.atKey kl z = .lit (.bool (f x y)))
  nodup : S.Nodup
  lt : ∀ p ∈ S, p.1 < m ∧ p.2 < n
end Go.Proofs.Ytpefbcnfhngggaa
namespace Go.Proofs.Ytpefbcnfhngggaa
open Go.RowKit Go.Sort
open Go.Maps (Keyed)
section
variable {P : Program} {k e t : TypeId} {f : Nat → Nat → Bool} {m n : Nat} {w : World} {b : Nat} {S : List (Nat × Nat)}
theorem Memo.room (h : Memo P k e f m n w b S) (hm : m ≤ 24) (hn : n ≤ 24) : S.length < maxLen := by
  have h1 := pairs_len S h.nodup h.lt
  have h2 : m * n ≤ 24 * 24 := Nat.mul_le_mul hm hn
  have h3 : 24 * 24 < maxLen := by decide
  omega
theorem Memo.block (h : Memo P k e f m n w b S) : b < w.heap.size := by
  obtain ⟨D, h1, _⟩ := h.own
  exact h1.lt
theorem Memo.kept {w' : World} {row : Option Nat} (h : Memo P k e f m n w b S) (hg : w.grownBy w' row) (hne : some b ≠ row) : Memo P k e f m n w' b S := by
  obtain ⟨D, h1, h2⟩ := h.own
  exact ⟨⟨D, h1.kept hg hne, h2⟩, h.nodup, h.lt⟩
theorem Memo.made (w : World) : Memo P k e f m n (w.alloc (.map #[] 0)) w.heap.size [] :=
  ⟨⟨.map [], World.ownsMap_made w P k _, Maps.isMap_empty, fun x y kl _ _ _ => ⟨by simp [Maps.has_eq], by simp⟩⟩, by simp, by simp⟩
/-- v, ok := m[pair] -/
theorem Memo.look (h : Memo P k e f m n w b S) {ops : Array Oper} {rest : List Oper} {o : Oper} {a : Act} {Q : Exit → Act → World → Prop}
    (hg : o.guard = none) (mo xo : Operand) (hop : o.op = Op.lookup t mo xo true)
    (K : Keyed P k) (ht : P.underlying t = some (.map k e)) (he : P.underlying e = some .bool) (hz : (zeroValue e).run P w = .ok (.bool false) w)
    (hm : a.eval mo = .map (some b)) {x y : Nat} (hx : a.eval xo = pairV x y) (hxm : x < m) (hyn : y < n) {kl : Lit} (hkey : keyOf P k (pairV x y) = some kl)
    (hno : (x, y) ∉ S → wpList P ops Q rest (a.put o.dst (.tuple #[.bool false, .bool false])) w)
    (hyes : (x, y) ∈ S → wpList P ops Q rest (a.put o.dst (.tuple #[.bool (f x y), .bool true])) w) :
    wpList P ops Q (o :: rest) a w := by
  obtain ⟨D, h1, h2, h3⟩ := h.own
  obtain ⟨g1, g2⟩ := h3 x y kl hxm hyn hkey
  refine wpList_lookup_ok w hg mo xo t hop k e K ht he hz b S.length D hm h1 _ kl hx hkey (fun hh => hno (fun hc => ?_)) (fun c hh hc => ?_)
  · have := g1.2 hc; rw [hh] at this; cases this
  · have hin := g1.1 hh
    have h4 := hc .nil
    rw [g2 hin .nil] at h4
    injection h4 with h4
    injection h4 with h4
    subst h4
    exact hyes hin
/-- m[pair] = f(pair) -/
theorem Memo.store (h : Memo P k e f m n w b S) {ops : Array Oper} {rest : List Oper} {o : Oper} {a : Act} {Q : Exit → Act → World → Prop}
    (hg : o.guard = none) (mo xo vo : Operand) (hop : o.op = Op.mapUpdate t mo xo vo)
    (K : Keyed P k) (ht : P.underlying t = some (.map k e)) (he : P.underlying e = some .bool) (hm24 : m ≤ 24) (hn24 : n ≤ 24)
    (hm : a.eval mo = .map (some b)) {x y : Nat} (hx : a.eval xo = pairV x y) (hv : a.eval vo = .bool (f x y)) (hxm : x < m) (hyn : y < n)
    (hkey : ∀ x y : Nat, x < m → y < n → ∃ kl, keyOf P k (pairV x y) = some kl) (hnew : (x, y) ∉ S)
    (hK : ∀ w', Memo P k e f m n w' b ((x, y) :: S) → w.grownBy w' (some b) → wpList P ops Q rest (a.put o.dst undef) w') :
    wpList P ops Q (o :: rest) a w := by
  obtain ⟨D, h1, h2, h3⟩ := h.own
  obtain ⟨kl, hkl⟩ := hkey x y hxm hyn
  have hik := K.key hkl
  refine wpList_mapUpdate_own w hg mo xo vo t hop k e K ht _ b S.length D hm h1 (h.room hm24 hn24) _ _ kl hx hv hkl (.lit (.bool (f x y))) [] (plainElem_bool he _) ?_
  intro w' ho hg'
  refine hK w' ⟨⟨_, ho, h2.put kl _, fun x' y' kl' hx' hy' hk' => ?_⟩, List.nodup_cons.2 ⟨hnew, h.nodup⟩, fun p hp => ?_⟩ hg'
  · by_cases hkk : kl' = kl
    · subst hkk
      have hp := K.inj hk' hkl
      unfold pairV at hp
      injection hp with hp
      simp at hp
      obtain ⟨e1, e2⟩ := hp
      have e1 : x' = x := by omega
      have e2 : y' = y := by omega
      subst e1; subst e2
      exact ⟨⟨fun _ => by simp, fun _ => Maps.has_put_same h2 hik _⟩, fun _ z => Maps.atKey_put_same h2 hik _ z⟩
    · obtain ⟨g1, g2⟩ := h3 x' y' kl' hx' hy' hk'
      have hne : (x', y') ≠ (x, y) := by
        intro hh
        injection hh with e1 e2
        subst e1; subst e2
        rw [hkl] at hk'
        injection hk' with hk'
        exact hkk hk'.symm
      refine ⟨?_, fun hin z => ?_⟩
      · rw [Maps.has_put_other hkk, g1]
        simp [hne]
      · rw [Maps.atKey_put_other hkk]
        rcases List.mem_cons.1 hin with hin | hin
        · exact absurd hin hne
        · exact g2 hin z
  · rcases List.mem_cons.1 hp with rfl | hp
    · exact ⟨hxm, hyn⟩
    · exact h.lt p hp
end
end Go.Proofs.Ytpefbcnfhngggaa
