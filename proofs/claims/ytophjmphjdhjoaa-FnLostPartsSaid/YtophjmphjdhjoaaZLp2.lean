/- Plain laws: packed bytes are unpacked, and are never much longer. No program in sight. -/
import Derived.Test.YtophjmphjdhjoaaZLp1
import Derived.Laws.BytesArg
import Derived.Lib.ItoaNum
import Derived.Lib.AppendIntMem
set_option linter.unusedVariables false
set_option linter.unusedSimpArgs false
namespace Go.Proofs.Ytophjmphjdhjoaa

theorem take_replicate_of {l : List UInt8} {a M : Nat} (ha : a < l.length) (h : ∀ j, j < M → l[a+j]? = l[a]?) : (l.drop a).take M = List.replicate M l[a] := by
  have hx : l[a]? = some l[a] := by simp [ha]
  rw [hx] at h
  have hM : ∀ j, j < M → a + j < l.length := fun j hj => by
    have := h j hj
    rcases Nat.lt_or_ge (a + j) l.length with h' | h'
    · exact h'
    · rw [List.getElem?_eq_none h'] at this; cases this
  have hMl : M ≤ l.length - a := by
    rcases Nat.eq_zero_or_pos M with h0 | h0
    · omega
    · have := hM (M - 1) (by omega); omega
  apply List.ext_getElem?
  intro j
  rw [List.getElem?_take, List.getElem?_replicate]
  by_cases hj : j < M
  · rw [if_pos hj, if_pos hj, List.getElem?_drop, h j hj]
  · rw [if_neg hj, if_neg hj]
theorem ofNat_toNat_lt {n : Nat} (h : n < 256) : (UInt8.ofNat n).toNat = n := by rw [UInt8.toNat_ofNat']; omega
theorem unpackF_run {f : Nat} {x y : UInt8} {t out : List UInt8} (h : 128 < x.toNat) (hl : out.length + (x.toNat - 128) ≤ 1000) :
    unpackF (f + 1) (x :: y :: t) out = unpackF f t (out ++ List.replicate (x.toNat - 128) y) := by
  have h0 : ¬ (x = 0 ∨ x = 128 ∨ (y :: t) = []) := by
    rintro (h0 | h0 | h0)
    · subst h0; simp at h
    · subst h0; simp at h
    · cases h0
  have h1 : ¬ x < 128 := by rw [UInt8.lt_iff_toNat_lt]; simp; omega
  rw [unpackF, if_neg h0, if_neg h1, if_neg (by rw [List.length_append, List.length_replicate]; simpa using hl)]
  rfl
theorem unpackF_lit {f : Nat} {x : UInt8} {p t out : List UInt8} (h0 : 0 < x.toNat) (h : x.toNat < 128) (hp : p.length = x.toNat) (hl : out.length + x.toNat ≤ 1000) :
    unpackF (f + 1) (x :: (p ++ t)) out = unpackF f t (out ++ p) := by
  have h1 : ¬ (x = 0 ∨ x = 128 ∨ (p ++ t) = []) := by
    rintro (h1 | h1 | h1)
    · subst h1; simp at h0
    · subst h1; simp at h
    · have := congrArg List.length h1; simp only [List.length_append, List.length_nil] at this; omega
  have h2 : x < 128 := by rw [UInt8.lt_iff_toNat_lt]; simpa using h
  have e1 : (p ++ t).take x.toNat = p := by rw [← hp]; simp
  have e2 : (p ++ t).drop x.toNat = t := by rw [← hp]; simp
  have h3 : ¬ (p ++ t).length < x.toNat := by rw [List.length_append]; omega
  have h4 : ¬ 1000 < (out ++ p).length := by rw [List.length_append]; omega
  rw [unpackF, if_neg h1, if_pos h2, if_neg h3, e1, e2, if_neg h4]
theorem unpackF_pack (l : List UInt8) (hl : l.length ≤ 1000) : ∀ n a f, l.length - a ≤ n → a ≤ l.length → (packAt l a).length ≤ f → unpackF f (packAt l a) (l.take a) = some l := by
  intro n
  induction n with
  | zero =>
    intro a f h1 h2 _
    obtain rfl : a = l.length := by omega
    rw [packAt_end (Nat.le_refl _), List.take_length]
    cases f <;> rfl
  | succ n ih =>
    intro a f h1 h2 hf
    by_cases ha : a < l.length
    · obtain ⟨r1, r2, r3, _⟩ := runAt_spec l a ha
      by_cases hr : 3 ≤ runAt l a
      · rw [packAt_run ha hr] at hf ⊢
        generalize hM : min (runAt l a) 127 = M at *
        have hx : (UInt8.ofNat (128 + M)).toNat = 128 + M := ofNat_toNat_lt (by omega)
        obtain ⟨f, rfl⟩ : ∃ g, f = g + 1 := ⟨f - 1, by simp at hf; omega⟩
        have e1 : 128 + M - 128 = M := by omega
        rw [unpackF_run (by rw [hx]; omega) (by rw [hx, List.length_take]; omega), hx, e1]
        rw [← take_replicate_of ha (fun j hj => r3 j (by omega)), ← List.take_add]
        exact ih (a + M) f (by omega) (by omega) (by simp at hf; omega)
      · rw [packAt_lit ha hr] at hf ⊢
        have h3 := litEnd_ge l a (a+1)
        have h4 := litEnd_le (l := l) (a := a) (k := a+1) (by omega) (by omega)
        rw [← litEnd_gt ha (by omega)] at h3 h4
        generalize litEnd l a a = E at *
        have hx : (UInt8.ofNat (E - a)).toNat = E - a := ofNat_toNat_lt (by omega)
        obtain ⟨f, rfl⟩ : ∃ g, f = g + 1 := ⟨f - 1, by simp at hf; omega⟩
        rw [unpackF_lit (by rw [hx]; omega) (by rw [hx]; omega) (by rw [hx, List.length_take, List.length_drop]; omega) (by rw [hx, List.length_take]; omega)]
        rw [← List.take_add, show a + (E - a) = E by omega]
        exact ih E f (by omega) (by omega) (by simp at hf; omega)
    · obtain rfl : a = l.length := by omega
      rw [packAt_end (Nat.le_refl _), List.take_length]
      cases f <;> rfl
/-- packed bytes are unpacked -/
theorem unpack_pack (l : List UInt8) (hl : l.length ≤ 1000) : unpack (pack l) = some l := by
  have := unpackF_pack l hl l.length 0 (pack l).length (by omega) (by omega) (Nat.le_refl _)
  simpa [unpack, pack] using this
theorem packAt_short (l : List UInt8) : ∀ n a, l.length - a ≤ n → a ≤ l.length → (packAt l a).length ≤ (l.length - a) + (l.length - a) / 127 + 1 := by
  intro n
  induction n using Nat.strongRecOn with
  | _ n ih =>
    intro a h1 h2
    by_cases ha : a < l.length
    · obtain ⟨r1, r2, r3, _⟩ := runAt_spec l a ha
      by_cases hr : 3 ≤ runAt l a
      · rw [packAt_run ha hr]
        generalize hM : min (runAt l a) 127 = M at *
        have := ih (l.length - (a + M)) (by omega) (a + M) (by omega) (by omega)
        simp only [List.length_cons]
        omega
      · rw [packAt_lit ha hr]
        have h3 := litEnd_ge l a (a+1)
        have h4 := litEnd_le (l := l) (a := a) (k := a+1) (by omega) (by omega)
        rw [← litEnd_gt ha (by omega)] at h3 h4
        have hstop := litEnd_final l a
        generalize litEnd l a a = E at *
        simp only [List.length_cons, List.length_append, List.length_take, List.length_drop]
        by_cases hE : E < l.length
        · by_cases hE2 : E - a < 127
          · have hr2 : 3 ≤ runAt l E := by
              rcases Nat.lt_or_ge (runAt l E) 3 with h | h
              · exact absurd ⟨hE, hE2, h⟩ (hstop ha (by omega))
              · exact h
            obtain ⟨q1, q2, _, _⟩ := runAt_spec l E hE
            rw [packAt_run hE hr2]
            generalize hM : min (runAt l E) 127 = M at *
            have := ih (l.length - (E + M)) (by omega) (E + M) (by omega) (by omega)
            simp only [List.length_cons]
            omega
          · have := ih (l.length - E) (by omega) E (by omega) (by omega)
            omega
        · obtain rfl : E = l.length := by omega
          rw [packAt_end (Nat.le_refl _)]
          simp
    · rw [packAt_end (by omega)]; simp
where
  litEnd_final (l : List UInt8) (a : Nat) : a < l.length → runAt l a < 3 → ¬ (litEnd l a a < l.length ∧ litEnd l a a - a < 127 ∧ runAt l (litEnd l a a) < 3) := by
    intro ha _
    have key : ∀ f k, l.length - k ≤ f → k ≤ l.length → ¬ (litF l a f k < l.length ∧ litF l a f k - a < 127 ∧ runAt l (litF l a f k) < 3) := by
      intro f
      induction f with
      | zero => intro k h1 h2; rw [litF]; omega
      | succ f ih =>
        intro k h1 h2
        rw [litF]
        by_cases hc : k < l.length ∧ k - a < 127 ∧ runAt l k < 3
        · rw [if_pos hc]; exact ih (k+1) (by omega) (by omega)
        · rw [if_neg hc]; exact hc
    exact key (l.length - a) a (Nat.le_refl _) (by omega)
theorem pack_short (l : List UInt8) : (pack l).length ≤ l.length + l.length / 127 + 1 := packAt_short l l.length 0 (by omega) (by omega)
end Go.Proofs.Ytophjmphjdhjoaa

/- The drawn bytes of unpacking. -/
namespace Go.Proofs.Ytophjmphjdhjoaa
open Go.RowKit Go.Sort

theorem grown_new {w w1 : World} {p : Nat} (h : w.grownBy w1 (some p)) {a : Addr} (hb : w.heap.size ≤ a.block) (u : Value) : w.grownBy (w1.setCell a u) (some p) :=
  ⟨h.os, h.tape, h.output, by simpa using h.size, fun k hk hne => (heap_setCell_other w1 a k u (by omega)).trans (h.block k hk hne)⟩
theorem ownBlock_len (A : Option Addr) (m n c : Nat) : (Value.slice A m c).ownBlock = (Value.slice A n c).ownBlock := by cases A <;> rfl
theorem Cur.set {wb w : World} {p : Nat} {A : Option Addr} {l : List UInt8} {c : Nat} (h : Cur wb w p A l c) {a : Addr} (hne : a.block ≠ p) (hb : wb.heap.size ≤ a.block) (u : Value) : Cur wb (w.setCell a u) p A l c :=
  h.kept (grown_set w a u) (by intro hh; injection hh with hh; exact hne hh) (h.2.1.setCell hb u)
set_option maxHeartbeats 1000000 in
theorem l1IntLit_c (ns : List Int) (hns : 0 < ns.length) (hns2 : ns.length ≤ 256) (n : Nat) (hn : n = ns.length) (cs : Array Value) (hcs : cs = (ns.map vint).toArray) (wb w : World) (p : Nat) (A : Option Addr) (l : List UInt8) (c : Nat) (hA : Bs wb A l c) (hC : Cur wb w p A l c) :
    Calls Try.prog 38 #[.pointer (some ⟨p, 0, none⟩), .slice (some ⟨w.heap.size, 0, none⟩) n n] (w.alloc (.cells cs 3)) fun e w' => ∃ x ∈ ns, e = .returned (.int .i64 x) ∧ Cur wb w' p A l c ∧ w.grownBy w' (some p) := by
  subst hn; subst hcs
  have hC' := hC.ext (Ext_alloc (.cells (ns.map vint).toArray 3) (Ext.refl w))
  have hlt := hC.lt
  refine (l1Int_c (some ⟨w.heap.size, 0, none⟩) ns ns.length hns hns2 wb _ p A l c hA hC' ?_).mono ?_
  · intro w' hg i hi
    refine ⟨w.heap.size, 0, rfl, ?_⟩
    have h0 := boxed (Ext.refl (w.alloc (.cells (ns.map vint).toArray 3))) (0 + i)
    refine hg.cell (a := ⟨w.heap.size, 0 + i, none⟩) (h0.trans ?_) (by intro hh; injection hh with hh; simp at hh; omega)
    rw [Nat.zero_add]
    simp [vint, hi]
  · rintro e w' ⟨x, hx, he, hC1, hg⟩
    exact ⟨x, hx, he, hC1, (World.grownBy_alloc w _ _).trans hg⟩
end Go.Proofs.Ytophjmphjdhjoaa

/- The drawn records. -/
namespace Go.Proofs.Ytophjmphjdhjoaa
open Go.RowKit Go.Sort

set_option maxRecDepth 100000 in
set_option maxHeartbeats 1000000 in
theorem l1Str_c (B : Option Addr) (ns : List ByteArray) (cb : Nat) (hns : 0 < ns.length) (hns2 : ns.length ≤ 256) (wb w : World) (p : Nat) (A : Option Addr) (l : List UInt8) (c : Nat) (hA : Bs wb A l c) (hC : Cur wb w p A l c)
    (hk : ∀ w', w.grownBy w' (some p) → ∀ i (h : i < ns.length), ∃ b off, B = some ⟨b, off, none⟩ ∧ w'.cell? ⟨b, off + i, none⟩ = some (.string ns[i])) :
    Calls Try.prog 26 #[.pointer (some ⟨p, 0, none⟩), .slice B ns.length cb] w fun e w' => ∃ x ∈ ns, e = .returned (.string x) ∧ Cur wb w' p A l c ∧ w.grownBy w' (some p) := by
  have CB := Lib.hid (fun w h => l1Below_c ns.length wb w p A l c hA h (by omega))
  go_enter Try.func26, Try.ntmps26
  go_wp2_with fail
  refine (CB.out _ hC).mono ?_; rintro _ w1 ⟨x, hx, rfl, hC1, hg1⟩
  have hx' : x < ns.length := by unfold below at hx; rw [if_neg (by omega)] at hx; omega
  obtain ⟨b, off, rfl, hc⟩ := hk w1 hg1 x hx'
  go_wp2
  go_ret
  exact ⟨_, List.getElem_mem hx', rfl, hC1, hg1⟩
set_option maxHeartbeats 1000000 in
theorem l1StrLit_c (ns : List ByteArray) (hns : 0 < ns.length) (hns2 : ns.length ≤ 256) (n : Nat) (hn : n = ns.length) (cs : Array Value) (hcs : cs = (ns.map vstr).toArray) (wb w : World) (p : Nat) (A : Option Addr) (l : List UInt8) (c : Nat) (hA : Bs wb A l c) (hC : Cur wb w p A l c) :
    Calls Try.prog 26 #[.pointer (some ⟨p, 0, none⟩), .slice (some ⟨w.heap.size, 0, none⟩) n n] (w.alloc (.cells cs 9)) fun e w' => ∃ x ∈ ns, e = .returned (.string x) ∧ Cur wb w' p A l c ∧ w.grownBy w' (some p) := by
  subst hn; subst hcs
  have hC' := hC.ext (Ext_alloc (.cells (ns.map vstr).toArray 9) (Ext.refl w))
  have hlt := hC.lt
  refine (l1Str_c (some ⟨w.heap.size, 0, none⟩) ns ns.length hns hns2 wb _ p A l c hA hC' ?_).mono ?_
  · intro w' hg i hi
    refine ⟨w.heap.size, 0, rfl, ?_⟩
    have h0 := boxed (Ext.refl (w.alloc (.cells (ns.map vstr).toArray 9))) (0 + i)
    refine hg.cell (a := ⟨w.heap.size, 0 + i, none⟩) (h0.trans ?_) (by intro hh; injection hh with hh; simp at hh; omega)
    rw [Nat.zero_add]
    simp [vstr, hi]
  · rintro e w' ⟨x, hx, he, hC1, hg⟩
    exact ⟨x, hx, he, hC1, (World.grownBy_alloc w _ _).trans hg⟩
theorem Box.four {w : World} {g : Nat} {a b c d : Value} {T : TypeId} (h : Box w g #[a, b, c, d] T) :
    (∀ w', Ext w w' → w'.cell? ⟨g, 0, none⟩ = some a) ∧ (∀ w', Ext w w' → w'.cell? ⟨g, 1, none⟩ = some b) ∧ (∀ w', Ext w w' → w'.cell? ⟨g, 2, none⟩ = some c) ∧ (∀ w', Ext w w' → w'.cell? ⟨g, 3, none⟩ = some d) ∧
    (∀ w', Ext w w' → w'.frozen? ⟨g, 0, none⟩ = false) ∧ (∀ w', Ext w w' → w'.frozen? ⟨g, 1, none⟩ = false) ∧ (∀ w', Ext w w' → w'.frozen? ⟨g, 2, none⟩ = false) ∧ (∀ w', Ext w w' → w'.frozen? ⟨g, 3, none⟩ = false) :=
  ⟨fun _ e => (h.ext e).cell 0, fun _ e => (h.ext e).cell 1, fun _ e => (h.ext e).cell 2, fun _ e => (h.ext e).cell 3, fun _ e => (h.ext e).free 0, fun _ e => (h.ext e).free 1, fun _ e => (h.ext e).free 2, fun _ e => (h.ext e).free 3⟩
theorem Box.stored4 {w : World} {g : Nat} {a b c d : Value} {T : TypeId} (h : Box w g #[a, b, c, d] T) (x0 x1 x2 x3 : Value) :
    Box ((((w.setCell ⟨g, 0, none⟩ x0).setCell ⟨g, 1, none⟩ x1).setCell ⟨g, 2, none⟩ x2).setCell ⟨g, 3, none⟩ x3) g #[x0, x1, x2, x3] T := by
  have := (((h.set 0 x0).set 1 x1).set 2 x2).set 3 x3
  simpa using this
theorem Cur.set4 {wb w : World} {p : Nat} {A : Option Addr} {l : List UInt8} {c : Nat} (h : Cur wb w p A l c) {g : Nat} (hne : g ≠ p) (hb : wb.heap.size ≤ g) (x0 x1 x2 x3 : Value) :
    Cur wb ((((w.setCell ⟨g, 0, none⟩ x0).setCell ⟨g, 1, none⟩ x1).setCell ⟨g, 2, none⟩ x2).setCell ⟨g, 3, none⟩ x3) p A l c :=
  (((h.set (a := ⟨g, 0, none⟩) hne hb x0).set (a := ⟨g, 1, none⟩) hne hb x1).set (a := ⟨g, 2, none⟩) hne hb x2).set (a := ⟨g, 3, none⟩) hne hb x3
theorem grown_new4 {w w1 : World} {p : Nat} (h : w.grownBy w1 (some p)) {g : Nat} (hb : w.heap.size ≤ g) (x0 x1 x2 x3 : Value) :
    w.grownBy ((((w1.setCell ⟨g, 0, none⟩ x0).setCell ⟨g, 1, none⟩ x1).setCell ⟨g, 2, none⟩ x2).setCell ⟨g, 3, none⟩ x3) (some p) :=
  grown_new (grown_new (grown_new (grown_new h (a := ⟨g, 0, none⟩) hb x0) (a := ⟨g, 1, none⟩) hb x1) (a := ⟨g, 2, none⟩) hb x2) (a := ⟨g, 3, none⟩) hb x3
theorem OwnL.set4 {α : Type} {f : α → Value} {e : TypeId} {w0 w : World} {v : Value} {l : List α} (h : OwnL f e w0 w v l) {g : Nat} (hne : v.ownBlock ≠ some g) (x0 x1 x2 x3 : Value) :
    OwnL f e w0 ((((w.setCell ⟨g, 0, none⟩ x0).setCell ⟨g, 1, none⟩ x1).setCell ⟨g, 2, none⟩ x2).setCell ⟨g, 3, none⟩ x3) v l :=
  (((h.set ⟨g, 0, none⟩ x0 hne).set ⟨g, 1, none⟩ x1 hne).set ⟨g, 2, none⟩ x2 hne).set ⟨g, 3, none⟩ x3 hne
theorem some_ne {a b : Nat} (h : a ≠ b) : (some a : Option Nat) ≠ some b := fun e => h (Option.some.inj e)
end Go.Proofs.Ytophjmphjdhjoaa

/- Draws of descriptions: l1Bytes (a few drawn bytes). -/
namespace Go.Proofs.Ytophjmphjdhjoaa
open Go.RowKit Go.Sort

set_option maxRecDepth 100000 in
set_option maxHeartbeats 2000000 in
theorem l1Bytes_c (m : Nat) (hm : m ≤ 16) (wb w : World) (p : Nat) (A : Option Addr) (l : List UInt8) (c : Nat) (hA : Bs wb A l c) (hC : Cur wb w p A l c) :
    Calls Try.prog 55 #[.pointer (some ⟨p, 0, none⟩), .int .i64 m] w fun e w' => ∃ v q, q.length = m ∧ e = .returned v ∧ OwnL vu8 5 wb w' v q ∧ (∀ g, v.ownBlock = some g → w.heap.size ≤ g) ∧ Cur wb w' p A l c ∧ w.grownBy w' (some p) := by
  have CB := Lib.hid (fun w h => l1Byte_c wb w p A l c hA h)
  have hplt := hC.lt
  have hw1 := (World.grownBy_alloc w (.cells #[] 5) (some p))
  have ho1 := Lib.hid (OwnL.empty (f := vu8) (e := 5) hC.2.1)
  have hC1 := hC.ext (Ext_alloc (.cells #[] 5) (Ext.refl w))
  have hn1 : Hid (∀ g, (Value.slice (some ⟨w.heap.size, 0, none⟩) 0 0).ownBlock = some g → w.heap.size ≤ g) := by
    intro g hh; injection hh with hh; simp at hh; omega
  go_enter Try.func55, Try.ntmps55
  go_wp2
  go_loopw [5, 6] (fun t i wr => ∃ (k : Nat) (q : List UInt8), k ≤ m ∧ i = .int .i64 k ∧ q.length = k ∧ Hid (∀ g, t.ownBlock = some g → w.heap.size ≤ g) ∧ w.grownBy wr (some p) ∧ Hid (OwnL vu8 5 wb wr t q) ∧ Cur wb wr p A l c) (fun _ i _ => m - (intOf i).toNat)
  case atStart => exact ⟨0, [], by omega, rfl, rfl, hn1, hw1, ho1, hC1⟩
  case round =>
    clear hn1 ho1 hC1 hw1
    obtain ⟨k, q, hk, rfl, hq, hn, hgr, ho, hCr⟩ := hrel
    by_cases hlt : k < m
    · go_wp2_with fail
      refine (CB.out _ hCr).mono ?_; rintro _ w2 ⟨y, hy, rfl, hC2, hg2⟩
      have ho2 := Lib.hid (OwnL.moved ho.out hg2 (nb hplt hn.out))
      have hgb := hgr.trans hg2
      have HB : Hid ((q.length + [UInt8.ofNat y].length) * 1 ≤ 140737488355328) := by show _ ≤ _; simp; omega
      have HCS : Hid (#[Value.int .u8 (y : Int)] = ([UInt8.ofNat y].map vu8).toArray) := by
        show _ = _
        have : (UInt8.ofNat y).toNat = y := by rw [UInt8.toNat_ofNat']; omega
        simp [vu8, this]
      clear hCr hg2 ho hgr
      go_wp2_with (first
        | (at_builtin; refine wpList_appC rfl (.tmp 13) (.tmp 17) _ rfl E_u8 (by omega) wb _ vu8 (fun _ => rfl) _ rfl _ _ rfl q [UInt8.ofNat y] _ HCS.out ho2.out hC2.2.1 rfl HB.out p hC2.lt (nb hplt hn.out) ?_; intro v4 w4 ho4 he4 hn4 hg4 hb4 _))
      have hC4 := Cur.kept hC2 hg4 (nb hplt hn.out) he4
      have hg' := grown_own hgb hn.out hg4
      have hn' := Lib.hid (hb4 _ hgb.size hn.out)
      have HO4 := Lib.hid ho4
      clear ho2 hC2 hg4 hb4 hn4 ho4
      go_wp2
      go_roundw
      case rel => exact ⟨k + 1, q ++ [UInt8.ofNat y], by omega, by go_num, by simp; omega, hn', hg', HO4, hC4⟩
      case measure => simp [intOf]; omega
    · obtain rfl : k = m := by omega
      go_wp2
      go_ret
      exact ⟨_, q, hq, rfl, ho.out, hn.out, hCr, hgr⟩
end Go.Proofs.Ytophjmphjdhjoaa

/- Descriptions as data: rules, how they lie in memory, what they read as. -/
namespace Go.Proofs.Ytophjmphjdhjoaa
open Go.RowKit Go.Sort

/-- a rule -/
structure DRule where
  nm : ByteArray
  kind : Int
  size : Int
  little : Bool
  bytes : List UInt8
  names : List ByteArray
  tags : List Int
  kids : List Int
/-- a rule's value; its four slices -/
def vrule (r : DRule) (vb vn vt vk : Value) : Value := .agg #[.string r.nm, .int .i64 r.kind, .int .i64 r.size, .bool r.little, vb, vn, vt, vk]
def vdesc (v : Value) : Value := .agg #[v]
/-- the four slices of a rule, each reading as its list -/
structure RdS (w : World) (r : DRule) (Ab : Option Addr) (cb : Nat) (An : Option Addr) (cn : Nat) (At : Option Addr) (ct : Nat) (Ak : Option Addr) (ck : Nat) : Prop where
  b : Rd0 vu8 w Ab r.bytes cb
  n : Rd0 vstr w An r.names cn
  t : Rd0 vint w At r.tags ct
  k : Rd0 vint w Ak r.kids ck
theorem RdS.ext {w w' : World} {r : DRule} {Ab : Option Addr} {cb : Nat} {An : Option Addr} {cn : Nat} {At : Option Addr} {ct : Nat} {Ak : Option Addr} {ck : Nat} (h : RdS w r Ab cb An cn At ct Ak ck) (e : Ext w w') : RdS w' r Ab cb An cn At ct Ak ck :=
  ⟨h.b.ext e, h.n.ext e, h.t.ext e, h.k.ext e⟩
/-- a rule's eight cells, in w and in every later world -/
structure RuleAt (w : World) (b o : Nat) (r : DRule) (vb vn vt vk : Value) : Prop where
  c0 : ∀ (w' : World), Ext w w' → w'.cell? ⟨b, o, none⟩ = some (.string r.nm)
  c1 : ∀ (w' : World), Ext w w' → w'.cell? ⟨b, o + 1, none⟩ = some (.int .i64 r.kind)
  c2 : ∀ (w' : World), Ext w w' → w'.cell? ⟨b, o + 2, none⟩ = some (.int .i64 r.size)
  c3 : ∀ (w' : World), Ext w w' → w'.cell? ⟨b, o + 3, none⟩ = some (.bool r.little)
  c4 : ∀ (w' : World), Ext w w' → w'.cell? ⟨b, o + 4, none⟩ = some vb
  c5 : ∀ (w' : World), Ext w w' → w'.cell? ⟨b, o + 5, none⟩ = some vn
  c6 : ∀ (w' : World), Ext w w' → w'.cell? ⟨b, o + 6, none⟩ = some vt
  c7 : ∀ (w' : World), Ext w w' → w'.cell? ⟨b, o + 7, none⟩ = some vk
theorem RuleAt.ext {w w' : World} {b o : Nat} {r : DRule} {vb vn vt vk : Value} (h : RuleAt w b o r vb vn vt vk) (e : Ext w w') : RuleAt w' b o r vb vn vt vk :=
  ⟨fun w1 e1 => h.c0 w1 (e.trans e1), fun w1 e1 => h.c1 w1 (e.trans e1), fun w1 e1 => h.c2 w1 (e.trans e1), fun w1 e1 => h.c3 w1 (e.trans e1), fun w1 e1 => h.c4 w1 (e.trans e1), fun w1 e1 => h.c5 w1 (e.trans e1), fun w1 e1 => h.c6 w1 (e.trans e1), fun w1 e1 => h.c7 w1 (e.trans e1)⟩
/-- a slice of rules that reads as ds -/
structure RdD (w : World) (A : Option Addr) (ds : List DRule) (c : Nat) : Prop where
  cap : ds.length ≤ c
  len : ds.length ≤ 9223372036854775807
  cells : 0 < ds.length → ∃ b off, A = some ⟨b, off, none⟩ ∧ b < w.heap.size ∧ ∀ i (h : i < ds.length), ∃ Ab cb An cn At ct Ak ck, RdS w ds[i] Ab cb An cn At ct Ak ck ∧
    RuleAt w b (off + i * 8) ds[i] (.slice Ab ds[i].bytes.length cb) (.slice An ds[i].names.length cn) (.slice At ds[i].tags.length ct) (.slice Ak ds[i].kids.length ck)
theorem RdD.ext {w w' : World} {A : Option Addr} {ds : List DRule} {c : Nat} (h : RdD w A ds c) (e : Ext w w') : RdD w' A ds c :=
  ⟨h.cap, h.len, fun hp => let ⟨b, off, h1, h2, h3⟩ := h.cells hp; ⟨b, off, h1, Nat.lt_of_lt_of_le h2 e.size, fun i hi => let ⟨Ab, cb, An, cn, At, ct, Ak, ck, h4, h5⟩ := h3 i hi; ⟨Ab, cb, An, cn, At, ct, Ak, ck, h4.ext e, h5.ext e⟩⟩⟩
theorem RdD.at {w : World} {A : Option Addr} {ds : List DRule} {c : Nat} (h : RdD w A ds c) (i : Nat) (hi : i < ds.length) :
    ∃ b off Ab cb An cn At ct Ak ck, A = some ⟨b, off, none⟩ ∧ b < w.heap.size ∧ RdS w ds[i] Ab cb An cn At ct Ak ck ∧
    RuleAt w b (off + i * 8) ds[i] (.slice Ab ds[i].bytes.length cb) (.slice An ds[i].names.length cn) (.slice At ds[i].tags.length ct) (.slice Ak ds[i].kids.length ck) := by
  obtain ⟨b, off, h1, h2, h3⟩ := h.cells (by omega)
  obtain ⟨Ab, cb, An, cn, At, ct, Ak, ck, h4, h5⟩ := h3 i hi
  exact ⟨b, off, Ab, cb, An, cn, At, ct, Ak, ck, h1, h2, h4, h5⟩
theorem RdD.nil (w : World) : RdD w none [] 0 := ⟨by simp, by simp, fun h => by simp at h⟩
/-- a slice of descriptions that reads as ds -/
structure RdG (w : World) (A : Option Addr) (ds : List (List DRule)) (c : Nat) : Prop where
  cap : ds.length ≤ c
  len : ds.length ≤ 9223372036854775807
  cells : 0 < ds.length → ∃ b off, A = some ⟨b, off, none⟩ ∧ b < w.heap.size ∧ ∀ i (h : i < ds.length), ∃ A' c', RdD w A' ds[i] c' ∧ ∀ (w' : World), Ext w w' → w'.cell? ⟨b, off + i, none⟩ = some (.slice A' ds[i].length c')
theorem RdG.ext {w w' : World} {A : Option Addr} {ds : List (List DRule)} {c : Nat} (h : RdG w A ds c) (e : Ext w w') : RdG w' A ds c :=
  ⟨h.cap, h.len, fun hp => let ⟨b, off, h1, h2, h3⟩ := h.cells hp; ⟨b, off, h1, Nat.lt_of_lt_of_le h2 e.size, fun i hi => let ⟨A', c', h4, h5⟩ := h3 i hi; ⟨A', c', h4.ext e, fun w1 e1 => h5 w1 (e.trans e1)⟩⟩⟩
theorem RdG.at {w : World} {A : Option Addr} {ds : List (List DRule)} {c : Nat} (h : RdG w A ds c) (i : Nat) (hi : i < ds.length) :
    ∃ b off A' c', A = some ⟨b, off, none⟩ ∧ b < w.heap.size ∧ RdD w A' ds[i] c' ∧ ∀ (w' : World), Ext w w' → w'.cell? ⟨b, off + i, none⟩ = some (.slice A' ds[i].length c') := by
  obtain ⟨b, off, h1, h2, h3⟩ := h.cells (by omega)
  obtain ⟨A', c', h4, h5⟩ := h3 i hi
  exact ⟨b, off, A', c', h1, h2, h4, h5⟩

/-- what a size counts -/
def szStrs (l : List ByteArray) : Nat := (l.map ByteArray.size).sum
def szRl (r : DRule) : Nat := r.nm.size + r.bytes.length + (r.names.length + szStrs r.names) + r.tags.length + r.kids.length
def szD (ds : List DRule) : Nat := ds.length + (ds.map szRl).sum
def szG (ds : List (List DRule)) : Nat := ds.length + (ds.map szD).sum
/-- what the machine bears of a rule that came in -/
structure WfR (r : DRule) : Prop where
  nm : r.nm.size ≤ 9223372036854775807
  names : ∀ s ∈ r.names, s.size ≤ 9223372036854775807
  kind : (Lit.int .i64 r.kind).wf = true
  size : (Lit.int .i64 r.size).wf = true
  tags : ∀ x ∈ r.tags, (Lit.int .i64 x).wf = true
  kids : ∀ x ∈ r.kids, (Lit.int .i64 x).wf = true
def WfD (ds : List DRule) : Prop := ∀ r ∈ ds, WfR r
def WfG (ds : List (List DRule)) : Prop := ∀ d ∈ ds, WfD d
theorem szN_neg {a b : Nat} {left : Int} (h : szN a left < 0) : szN (a + b) left = -1 := by
  unfold szN at *; split at h
  · rw [if_pos (by omega)]
  · rename_i h'; omega
theorem szN_add {a b : Nat} {left : Int} (h : ¬ szN a left < 0) : szN (a + b) left = szN b (szN a left) := by
  unfold szN at *; split at h
  · omega
  · rename_i h'
    rw [if_neg h']
    by_cases h2 : left - a - b < 0
    · rw [if_pos h2, if_pos (by omega)]
    · rw [if_neg h2, if_neg (by omega)]; omega
theorem szN_zero {left : Int} (h : 0 ≤ left) : szN 0 left = left := by unfold szN; rw [if_neg (by omega)]; omega
theorem szN_ge {n : Nat} {left : Int} (h : ¬ szN n left < 0) : (n : Int) ≤ left ∧ szN n left = left - n := by
  unfold szN at *; split at h
  · omega
  · rename_i h'; rw [if_neg h']; omega
theorem sum_take {α : Type} (f : α → Nat) (l : List α) (k : Nat) (hk : k < l.length) : ((l.take (k+1)).map f).sum = ((l.take k).map f).sum + f l[k] := by
  rw [List.take_succ_eq_append_getElem hk, List.map_append, List.sum_append, List.map_cons, List.map_nil, List.sum_cons, List.sum_nil, Nat.add_zero]
theorem sum_split {α : Type} (f : α → Nat) (l : List α) (k : Nat) : (l.map f).sum = ((l.take k).map f).sum + ((l.drop k).map f).sum := by
  rw [← List.sum_append, ← List.map_append, List.take_append_drop]
theorem szStrs_take (l : List ByteArray) (k : Nat) (hk : k < l.length) : szStrs (l.take (k+1)) = szStrs (l.take k) + l[k].size := sum_take _ l k hk
theorem szStrs_split (l : List ByteArray) (k : Nat) : szStrs l = szStrs (l.take k) + szStrs (l.drop k) := sum_split _ l k
theorem szStrs_le (l : List ByteArray) (k : Nat) : szStrs (l.take k) ≤ szStrs l := by rw [szStrs_split l k]; omega
end Go.Proofs.Ytophjmphjdhjoaa

/- Descriptions that a call made itself. -/
namespace Go.Proofs.Ytophjmphjdhjoaa
open Go.RowKit Go.Sort

theorem E_rule : Elem Try.prog 24 35 8 136 (.agg #[.string ⟨#[]⟩, .int .i64 0, .int .i64 0, .bool false, .slice none 0 0, .slice none 0 0, .slice none 0 0, .slice none 0 0]) := ⟨Try.underlying24, by kernel_rfl, rfl, by omega⟩
/-- no two of the values lie in one block -/
def Far (vs : List Value) : Prop := vs.Pairwise fun a b => ∀ g, a.ownBlock = some g → b.ownBlock ≠ some g
/-- a rule and its four slices -/
structure RV where
  r : DRule
  vb : Value
  vn : Value
  vt : Value
  vk : Value
def RV.cells (p : RV) : List Value := [.string p.r.nm, .int .i64 p.r.kind, .int .i64 p.r.size, .bool p.r.little, p.vb, p.vn, p.vt, p.vk]
def RV.vals (p : RV) : List Value := [p.vb, p.vn, p.vt, p.vk]
theorem RV.cells_one (p : RV) (hb : p.vb.oneCell' = true) (hn : p.vn.oneCell' = true) (ht : p.vt.oneCell' = true) (hk : p.vk.oneCell' = true) : ∀ u ∈ p.cells, u.oneCell' = true := by
  intro u hu; simp [RV.cells] at hu; rcases hu with rfl | rfl | rfl | rfl | rfl | rfl | rfl | rfl <;> first | rfl | assumption
structure RuleOwn (w0 w : World) (p : RV) : Prop where
  b : OwnL vu8 5 w0 w p.vb p.r.bytes
  n : OwnL vstr 9 w0 w p.vn p.r.names
  t : OwnL vint 3 w0 w p.vt p.r.tags
  k : OwnL vint 3 w0 w p.vk p.r.kids
theorem Own.keep {e : TypeId} {size : Nat} {w0 w w' : World} {v : Value} {n : Nat} {xs : List Value} (h : Own e size w0 w v n xs) {row : Option Nat} (hg : w.grownBy w' row) (hne : ∀ g, v.ownBlock = some g → row ≠ some g) : Own e size w0 w' v n xs := by
  refine World.ownsRow.kept h hg ?_
  cases hb : v.ownBlock with
  | none => exact .inl rfl
  | some g => right; exact fun he => hne g hb he.symm
theorem OwnL.keep {α : Type} {f : α → Value} {e : TypeId} {w0 w w' : World} {v : Value} {l : List α} (h : OwnL f e w0 w v l) {row : Option Nat} (hg : w.grownBy w' row) (hne : ∀ g, v.ownBlock = some g → row ≠ some g) : OwnL f e w0 w' v l := Own.keep h hg hne
theorem RuleOwn.ext {w0 w w' : World} {p : RV} (h : RuleOwn w0 w p) (e : Ext w w') : RuleOwn w0 w' p := ⟨h.b.ext e, h.n.ext e, h.t.ext e, h.k.ext e⟩
theorem RuleOwn.down {w0 w1 w : World} {p : RV} (h : RuleOwn w1 w p) (e : w0.heap.size ≤ w1.heap.size) : RuleOwn w0 w p := ⟨h.b.down e, h.n.down e, h.t.down e, h.k.down e⟩
theorem RuleOwn.keep {w0 w w' : World} {p : RV} (h : RuleOwn w0 w p) {row : Option Nat} (hg : w.grownBy w' row) (hne : ∀ v ∈ p.vals, ∀ g, v.ownBlock = some g → row ≠ some g) : RuleOwn w0 w' p :=
  ⟨h.b.keep hg (hne _ (by simp [RV.vals])), h.n.keep hg (hne _ (by simp [RV.vals])), h.t.keep hg (hne _ (by simp [RV.vals])), h.k.keep hg (hne _ (by simp [RV.vals]))⟩
/-- the blocks of a rule's slices: laid since w0, there in w -/
theorem RuleOwn.block {w0 w : World} {p : RV} (h : RuleOwn w0 w p) : ∀ v ∈ p.vals, ∀ g, v.ownBlock = some g → w0.heap.size ≤ g ∧ g < w.heap.size := by
  intro v hv
  simp [RV.vals] at hv
  rcases hv with rfl | rfl | rfl | rfl
  · exact fun g hg => World.ownsRow.lt h.b g hg
  · exact fun g hg => World.ownsRow.lt h.n g hg
  · exact fun g hg => World.ownsRow.lt h.t g hg
  · exact fun g hg => World.ownsRow.lt h.k g hg
/-- rules whose lists are short -/
def ShortR (r : DRule) : Prop := r.bytes.length ≤ 140737488351232 ∧ r.names.length ≤ 140737488351232 ∧ r.tags.length ≤ 140737488351232 ∧ r.kids.length ≤ 140737488351232
theorem szRl_short {r : DRule} (h : szRl r ≤ 1048576) : ShortR r ∧ r.bytes.length ≤ 1048576 ∧ r.names.length ≤ 1048576 ∧ r.tags.length ≤ 1048576 ∧ r.kids.length ≤ 1048576 := by
  unfold szRl at h; unfold ShortR; omega
theorem sum_mem {α : Type} (f : α → Nat) : ∀ (l : List α) (x : α), x ∈ l → f x ≤ (l.map f).sum
  | a :: t, x, hx => by
    rw [List.map_cons, List.sum_cons]
    rcases List.mem_cons.1 hx with rfl | h
    · omega
    · have := sum_mem f t x h; omega
theorem szD_mem {ds : List DRule} {n : Nat} (h : szD ds ≤ n) {r : DRule} (hr : r ∈ ds) : szRl r ≤ n := by
  unfold szD at h; have := sum_mem szRl ds r hr; omega
theorem szG_mem {ds : List (List DRule)} {n : Nat} (h : szG ds ≤ n) {r : List DRule} (hr : r ∈ ds) : szD r ≤ n := by
  unfold szG at h; have := sum_mem szD ds r hr; omega
theorem RuleOwn.rd {w0 w : World} {p : RV} (h : RuleOwn w0 w p) (hs : ShortR p.r) : ∃ Ab cb An cn At ct Ak ck, p.vb = .slice Ab p.r.bytes.length cb ∧ p.vn = .slice An p.r.names.length cn ∧ p.vt = .slice At p.r.tags.length ct ∧ p.vk = .slice Ak p.r.kids.length ck ∧ RdS w p.r Ab cb An cn At ct Ak ck := by
  obtain ⟨Ab, cb, h1, r1⟩ := OwnL.rd h.b hs.1
  obtain ⟨An, cn, h2, r2⟩ := OwnL.rd h.n hs.2.1
  obtain ⟨At, ct, h3, r3⟩ := OwnL.rd h.t hs.2.2.1
  obtain ⟨Ak, ck, h4, r4⟩ := OwnL.rd h.k hs.2.2.2
  exact ⟨Ab, cb, An, cn, At, ct, Ak, ck, h1, h2, h3, h4, r1.1, r2.1, r3.1, r4.1⟩
/-- rules that the call since w0 made, each with slices of its own -/
structure OwnD (w0 w : World) (v : Value) (ps : List RV) : Prop where
  row : Own 35 8 w0 w v ps.length (ps.flatMap RV.cells)
  each : ∀ p ∈ ps, RuleOwn w0 w p
  far : Far (v :: ps.flatMap RV.vals)
def rulesOf (ps : List RV) : List DRule := ps.map RV.r
theorem cells_len (ps : List RV) : (ps.flatMap RV.cells).length = ps.length * 8 := by
  induction ps with
  | nil => rfl
  | cons p t ih => rw [List.flatMap_cons, List.length_append, ih, List.length_cons]; simp [RV.cells]; omega
theorem cells_get : ∀ (ps : List RV) (i j : Nat) (h : i < ps.length), j < 8 → (ps.flatMap RV.cells)[i * 8 + j]? = ps[i].cells[j]? := by
  intro ps
  induction ps with
  | nil => intro i j h; simp at h
  | cons p t ih =>
    intro i j h hj
    rw [List.flatMap_cons]
    cases i with
    | zero =>
      rw [List.getElem?_append_left (by simp [RV.cells]; omega)]
      simp
    | succ i =>
      rw [List.getElem?_append_right (by simp [RV.cells]; omega)]
      have : (i + 1) * 8 + j - p.cells.length = i * 8 + j := by simp [RV.cells]; omega
      rw [this, ih i j (by simpa using h) hj]
      simp
theorem OwnD.ext {w0 w w' : World} {v : Value} {ps : List RV} (h : OwnD w0 w v ps) (e : Ext w w') : OwnD w0 w' v ps := ⟨h.row.ext e, fun p hp => (h.each p hp).ext e, h.far⟩
theorem OwnD.down {w0 w1 w : World} {v : Value} {ps : List RV} (h : OwnD w1 w v ps) (e : w0.heap.size ≤ w1.heap.size) : OwnD w0 w v ps := ⟨World.ownsRow.lower h.row e, fun p hp => (h.each p hp).down e, h.far⟩
theorem OwnD.keep {w0 w w' : World} {v : Value} {ps : List RV} (h : OwnD w0 w v ps) {row : Option Nat} (hg : w.grownBy w' row) (hne : ∀ u ∈ v :: ps.flatMap RV.vals, ∀ g, u.ownBlock = some g → row ≠ some g) : OwnD w0 w' v ps :=
  ⟨h.row.keep hg (hne _ (by simp)), fun p hp => (h.each p hp).keep hg (fun u hu => hne u (List.mem_cons_of_mem _ (List.mem_flatMap.2 ⟨p, hp, hu⟩))), h.far⟩
theorem OwnD.shape {w0 w : World} {v : Value} {ps : List RV} (h : OwnD w0 w v ps) : ∃ A c, v = .slice A ps.length c := by
  rcases h.row.2 with ⟨rfl, hn⟩ | ⟨g, cap, _, rfl, _⟩
  · exact ⟨none, 0, by rw [hn]⟩
  · exact ⟨_, _, rfl⟩
theorem OwnD.block {w0 w : World} {v : Value} {ps : List RV} (h : OwnD w0 w v ps) : ∀ u ∈ v :: ps.flatMap RV.vals, ∀ g, u.ownBlock = some g → w0.heap.size ≤ g ∧ g < w.heap.size := by
  intro u hu
  rcases List.mem_cons.1 hu with rfl | hu
  · exact fun g hg => World.ownsRow.lt h.row g hg
  · obtain ⟨p, hp, hu⟩ := List.mem_flatMap.1 hu
    exact (h.each p hp).block u hu
theorem heap_row {w : World} {g : Nat} {cur : Array Value} {T : TypeId} (hg : w.heap[g]? = some (.cells cur T (0, 0))) {w' : World} (e : Ext w w') (i : Nat) : w'.cell? ⟨g, i, none⟩ = cur[i]? :=
  cell_of_row w' g i cur T (0, 0) ((Below.block e g (Array.getElem?_eq_some_iff.1 hg).1).trans hg)
theorem OwnD.rd {w0 w : World} {v : Value} {ps : List RV} (h : OwnD w0 w v ps) (hl : ps.length ≤ 9223372036854775807) (hs : ∀ p ∈ ps, ShortR p.r) : ∃ A c, v = .slice A (rulesOf ps).length c ∧ RdD w A (rulesOf ps) c := by
  have hlen : (rulesOf ps).length = ps.length := by simp [rulesOf]
  rcases h.row.2 with ⟨rfl, h0⟩ | ⟨g, cap, cur, rfl, hb, hg, hnc, hcm, hcs, htake⟩
  · exact ⟨none, 0, by rw [hlen, h0], by omega, by omega, fun hp => by omega⟩
  · refine ⟨_, _, by rw [hlen], by omega, by omega, fun hp => ⟨g, 0, rfl, (Array.getElem?_eq_some_iff.1 hg).1, fun i hi => ?_⟩⟩
    have hi' : i < ps.length := by omega
    have hr : (rulesOf ps)[i] = ps[i].r := by simp [rulesOf]
    have hc : ∀ (w' : World), Ext w w' → ∀ j, j < 8 → w'.cell? ⟨g, i * 8 + j, none⟩ = ps[i].cells[j]? := by
      intro w' e j hj
      rw [heap_row hg e, ← cells_get ps i j hi' hj, ← htake, List.getElem?_take, if_pos (by omega)]
      simp
    obtain ⟨Ab, cb, An, cn, At, ct, Ak, ck, e1, e2, e3, e4, hS⟩ := (h.each _ (List.getElem_mem hi')).rd (hs _ (List.getElem_mem hi'))
    rw [hr]
    refine ⟨Ab, cb, An, cn, At, ct, Ak, ck, hS, ?_⟩
    rw [← e1, ← e2, ← e3, ← e4, Nat.zero_add]
    exact ⟨fun w' e => by have := hc w' e 0 (by omega); simpa [RV.cells] using this, fun w' e => by have := hc w' e 1 (by omega); simpa [RV.cells] using this, fun w' e => by have := hc w' e 2 (by omega); simpa [RV.cells] using this, fun w' e => by have := hc w' e 3 (by omega); simpa [RV.cells] using this,
      fun w' e => by have := hc w' e 4 (by omega); simpa [RV.cells] using this, fun w' e => by have := hc w' e 5 (by omega); simpa [RV.cells] using this, fun w' e => by have := hc w' e 6 (by omega); simpa [RV.cells] using this, fun w' e => by have := hc w' e 7 (by omega); simpa [RV.cells] using this⟩
/-- eight cells are laid into a row -/
theorem set8 (xs : List Value) (p : RV) (rest : List Value) (hr : 8 ≤ rest.length) (k : Nat) (hk : xs.length = k) :
    ((((((((xs ++ rest).set k (.string p.r.nm)).set (k + 1) (.int .i64 p.r.kind)).set (k + 2) (.int .i64 p.r.size)).set (k + 3) (.bool p.r.little)).set (k + 4) p.vb).set (k + 5) p.vn).set (k + 6) p.vt).set (k + 7) p.vk = (xs ++ p.cells) ++ rest.drop 8 := by
  match rest, hr with
  | a0 :: a1 :: a2 :: a3 :: a4 :: a5 :: a6 :: a7 :: t, _ =>
    subst hk
    rw [List.set_append_right _ _ (by omega), List.set_append_right _ _ (by omega), List.set_append_right _ _ (by omega), List.set_append_right _ _ (by omega), List.set_append_right _ _ (by omega), List.set_append_right _ _ (by omega), List.set_append_right _ _ (by omega), List.set_append_right _ _ (by omega)]
    rw [show xs.length - xs.length = 0 by omega, show xs.length + 1 - xs.length = 1 by omega, show xs.length + 2 - xs.length = 2 by omega, show xs.length + 3 - xs.length = 3 by omega, show xs.length + 4 - xs.length = 4 by omega, show xs.length + 5 - xs.length = 5 by omega, show xs.length + 6 - xs.length = 6 by omega, show xs.length + 7 - xs.length = 7 by omega]
    simp [RV.cells]
/-- the world behind eight stores -/
def put8 (w : World) (g k : Nat) (p : RV) : World :=
  (((((((w.setCell ⟨g, k, none⟩ (.string p.r.nm)).setCell ⟨g, k + 1, none⟩ (.int .i64 p.r.kind)).setCell ⟨g, k + 2, none⟩ (.int .i64 p.r.size)).setCell ⟨g, k + 3, none⟩ (.bool p.r.little)).setCell ⟨g, k + 4, none⟩ p.vb).setCell ⟨g, k + 5, none⟩ p.vn).setCell ⟨g, k + 6, none⟩ p.vt).setCell ⟨g, k + 7, none⟩ p.vk
theorem grown_put8 (w : World) (g k : Nat) (p : RV) : w.grownBy (put8 w g k p) (some g) := by
  unfold put8
  exact ((((((((grown_set w ⟨g, k, none⟩ _).trans (grown_set _ ⟨g, k + 1, none⟩ _)).trans (grown_set _ ⟨g, k + 2, none⟩ _)).trans (grown_set _ ⟨g, k + 3, none⟩ _)).trans (grown_set _ ⟨g, k + 4, none⟩ _)).trans (grown_set _ ⟨g, k + 5, none⟩ _)).trans (grown_set _ ⟨g, k + 6, none⟩ _)).trans (grown_set _ ⟨g, k + 7, none⟩ _))
theorem Own.put8 {e : TypeId} {w0 w : World} {g n cap : Nat} {xs rest : List Value} (h : Own e 8 w0 w (.slice (some ⟨g, 0, none⟩) n cap) n (xs ++ rest)) (he : Ext w0 w) (p : RV) (hr : 8 ≤ rest.length) (k : Nat) (hk : xs.length = k) :
    Own e 8 w0 (put8 w g k p) (.slice (some ⟨g, 0, none⟩) n cap) n ((xs ++ p.cells) ++ rest.drop 8) ∧ Ext w0 (put8 w g k p) := by
  rw [← set8 xs p rest hr k hk]
  obtain ⟨h0, e0⟩ := h.store he k (.string p.r.nm)
  obtain ⟨h1, e1⟩ := Own.store h0 e0 (k + 1) (.int .i64 p.r.kind)
  obtain ⟨h2, e2⟩ := Own.store h1 e1 (k + 2) (.int .i64 p.r.size)
  obtain ⟨h3, e3⟩ := Own.store h2 e2 (k + 3) (.bool p.r.little)
  obtain ⟨h4, e4⟩ := Own.store h3 e3 (k + 4) p.vb
  obtain ⟨h5, e5⟩ := Own.store h4 e4 (k + 5) p.vn
  obtain ⟨h6, e6⟩ := Own.store h5 e5 (k + 6) p.vt
  obtain ⟨h7, e7⟩ := Own.store h6 e6 (k + 7) p.vk
  exact ⟨h7, e7⟩
theorem Far.append {a b : List Value} (ha : Far a) (hb : Far b) (h : ∀ u ∈ a, ∀ v ∈ b, ∀ g, u.ownBlock = some g → v.ownBlock ≠ some g) : Far (a ++ b) := List.pairwise_append.2 ⟨ha, hb, h⟩
theorem Far.cons {u : Value} {b : List Value} (hb : Far b) (h : ∀ v ∈ b, ∀ g, u.ownBlock = some g → v.ownBlock ≠ some g) : Far (u :: b) := List.pairwise_cons.2 ⟨h, hb⟩
theorem Far.nil : Far [] := List.Pairwise.nil
theorem Far.one (v : Value) : Far [v] := List.pairwise_singleton _ v
/-- descriptions that the call since w0 made: a slice's value and its rules, each -/
structure OwnG (w0 w : World) (v : Value) (qs : List (Value × List RV)) : Prop where
  row : Own 26 1 w0 w v qs.length (qs.map Prod.fst)
  each : ∀ q ∈ qs, OwnD w0 w q.1 q.2
  far : Far (v :: qs.flatMap fun q => q.1 :: q.2.flatMap RV.vals)
def descsOf (qs : List (Value × List RV)) : List (List DRule) := qs.map fun q => rulesOf q.2
theorem OwnG.ext {w0 w w' : World} {v : Value} {qs : List (Value × List RV)} (h : OwnG w0 w v qs) (e : Ext w w') : OwnG w0 w' v qs := ⟨h.row.ext e, fun p hp => (h.each p hp).ext e, h.far⟩
theorem OwnG.down {w0 w1 w : World} {v : Value} {qs : List (Value × List RV)} (h : OwnG w1 w v qs) (e : w0.heap.size ≤ w1.heap.size) : OwnG w0 w v qs := ⟨World.ownsRow.lower h.row e, fun p hp => (h.each p hp).down e, h.far⟩
theorem OwnG.shape {w0 w : World} {v : Value} {qs : List (Value × List RV)} (h : OwnG w0 w v qs) : ∃ A c, v = .slice A qs.length c := by
  rcases h.row.2 with ⟨rfl, hn⟩ | ⟨g, cap, _, rfl, _⟩
  · exact ⟨none, 0, by rw [hn]⟩
  · exact ⟨_, _, rfl⟩
theorem OwnG.block {w0 w : World} {v : Value} {qs : List (Value × List RV)} (h : OwnG w0 w v qs) : ∀ u ∈ v :: (qs.flatMap fun q => q.1 :: q.2.flatMap RV.vals), ∀ g, u.ownBlock = some g → w0.heap.size ≤ g ∧ g < w.heap.size := by
  intro u hu
  rcases List.mem_cons.1 hu with rfl | hu
  · exact fun g hg => World.ownsRow.lt h.row g hg
  · obtain ⟨p, hp, hu⟩ := List.mem_flatMap.1 hu
    exact (h.each p hp).block u hu
theorem OwnG.keep {w0 w w' : World} {v : Value} {qs : List (Value × List RV)} (h : OwnG w0 w v qs) {row : Option Nat} (hg : w.grownBy w' row) (hne : ∀ u ∈ v :: (qs.flatMap fun q => q.1 :: q.2.flatMap RV.vals), ∀ g, u.ownBlock = some g → row ≠ some g) : OwnG w0 w' v qs :=
  ⟨h.row.keep hg (hne _ (by simp)), fun p hp => (h.each p hp).keep hg (fun u hu => hne u (List.mem_cons_of_mem _ (List.mem_flatMap.2 ⟨p, hp, hu⟩))), h.far⟩
theorem OwnG.rd {w0 w : World} {v : Value} {qs : List (Value × List RV)} (h : OwnG w0 w v qs) (hl : qs.length ≤ 9223372036854775807) (hl2 : ∀ q ∈ qs, q.2.length ≤ 9223372036854775807) (hs : ∀ q ∈ qs, ∀ p ∈ q.2, ShortR p.r) : ∃ A c, v = .slice A (descsOf qs).length c ∧ RdG w A (descsOf qs) c := by
  have hlen : (descsOf qs).length = qs.length := by simp [descsOf]
  rcases h.row.2 with ⟨rfl, h0⟩ | ⟨g, cap, cur, rfl, hb, hg, hnc, hcm, hcs, htake⟩
  · exact ⟨none, 0, by rw [hlen, h0], by omega, by omega, fun hp => by omega⟩
  · refine ⟨_, _, by rw [hlen], by omega, by omega, fun hp => ⟨g, 0, rfl, (Array.getElem?_eq_some_iff.1 hg).1, fun i hi => ?_⟩⟩
    have hi' : i < qs.length := by omega
    have hr : (descsOf qs)[i] = rulesOf qs[i].2 := by simp [descsOf]
    rw [hr]
    obtain ⟨A', c', hv, hR⟩ := (h.each _ (List.getElem_mem hi')).rd (hl2 _ (List.getElem_mem hi')) (hs _ (List.getElem_mem hi'))
    refine ⟨A', c', hR, fun w' e => ?_⟩
    rw [heap_row hg e, ← hv, Nat.zero_add]
    have h2 : (cur.toList.take (qs.length * 1))[i]? = (qs.map Prod.fst)[i]? := by rw [htake]
    rw [List.getElem?_take, if_pos (by omega)] at h2
    simpa [hi'] using h2
end Go.Proofs.Ytophjmphjdhjoaa

/- A drawn rule while it is made: its box, its four rows, the cursor. -/
namespace Go.Proofs.Ytophjmphjdhjoaa
open Go.RowKit Go.Sort

structure Mk (wb w wr : World) (p : Nat) (A : Option Addr) (l : List UInt8) (c : Nat) (g : Nat) (q : RV) : Prop where
  box : Box wr g q.cells.toArray 35
  own : RuleOwn wb wr q
  far : Far q.vals
  new : ∀ u ∈ q.vals, ∀ b, u.ownBlock = some b → w.heap.size ≤ b ∧ b ≠ g ∧ b ≠ p
  cur : Cur wb wr p A l c
  grow : w.grownBy wr (some p)
  gw : w.heap.size ≤ g
  gb : wb.heap.size ≤ g
  gp : g ≠ p
theorem Mk.moved {wb w wr w' : World} {p : Nat} {A : Option Addr} {l : List UInt8} {c g : Nat} {q : RV} (h : Mk wb w wr p A l c g q) (hC : Cur wb w' p A l c) (hg : wr.grownBy w' (some p)) : Mk wb w w' p A l c g q :=
  ⟨Box.moved h.box hg (some_ne h.gp.symm), h.own.keep hg (fun u hu b hb he => by injection he with he; exact (h.new u hu b hb).2.2 he.symm), h.far, h.new, hC, h.grow.trans hg, h.gw, h.gb, h.gp⟩
theorem Mk.ext {wb w wr w' : World} {p : Nat} {A : Option Addr} {l : List UInt8} {c g : Nat} {q : RV} (h : Mk wb w wr p A l c g q) (e : Ext wr w') : Mk wb w w' p A l c g q :=
  h.moved (h.cur.ext e) (grown_ext e _)
/-- a store into the box -/
theorem Mk.stored {wb w w2 : World} {p : Nat} {A : Option Addr} {l : List UInt8} {c g : Nat} {q q' : RV} (box : Box w2 g q.cells.toArray 35) (own : RuleOwn wb w2 q') (far : Far q'.vals)
    (new : ∀ u ∈ q'.vals, ∀ b, u.ownBlock = some b → w.heap.size ≤ b ∧ b ≠ g ∧ b ≠ p) (cur : Cur wb w2 p A l c) (grow : w.grownBy w2 (some p)) (gw : w.heap.size ≤ g) (gb : wb.heap.size ≤ g) (gp : g ≠ p)
    (i : Nat) (u : Value) (hq : q.cells.toArray.setIfInBounds i u = q'.cells.toArray) : Mk wb w (w2.setCell ⟨g, i, none⟩ u) p A l c g q' := by
  refine ⟨?_, own.keep (grown_set w2 ⟨g, i, none⟩ u) (fun v hv b hb he => by injection he with he; exact (new v hv b hb).2.1 he.symm), far, new, cur.set (a := ⟨g, i, none⟩) gp gb u, grown_new (a := ⟨g, i, none⟩) grow gw u, gw, gb, gp⟩
  have := box.set i u
  rw [hq] at this
  exact this
/-- a store of a number, a name, a flag -/
theorem Mk.put {wb w wr : World} {p : Nat} {A : Option Addr} {l : List UInt8} {c g : Nat} {q q' : RV} (h : Mk wb w wr p A l c g q) (i : Nat) (u : Value) (hq : q.cells.toArray.setIfInBounds i u = q'.cells.toArray) (hv : q'.vals = q.vals)
    (hr : q'.r.bytes = q.r.bytes ∧ q'.r.names = q.r.names ∧ q'.r.tags = q.r.tags ∧ q'.r.kids = q.r.kids) : Mk wb w (wr.setCell ⟨g, i, none⟩ u) p A l c g q' := by
  obtain ⟨r, vb, vn, vt, vk⟩ := q
  obtain ⟨r', vb', vn', vt', vk'⟩ := q'
  simp only [RV.vals, List.cons.injEq, and_true] at hv
  obtain ⟨rfl, rfl, rfl, rfl⟩ := hv
  dsimp only at hr
  refine Mk.stored (q' := ⟨r', vb', vn', vt', vk'⟩) h.box ⟨?_, ?_, ?_, ?_⟩ h.far h.new h.cur h.grow h.gw h.gb h.gp i u hq
  · show OwnL _ _ _ _ _ r'.bytes; rw [hr.1]; exact h.own.b
  · show OwnL _ _ _ _ _ r'.names; rw [hr.2.1]; exact h.own.n
  · show OwnL _ _ _ _ _ r'.tags; rw [hr.2.2.1]; exact h.own.t
  · show OwnL _ _ _ _ _ r'.kids; rw [hr.2.2.2]; exact h.own.k
end Go.Proofs.Ytophjmphjdhjoaa

/- A drawn rule while it is made: an append to one of its rows. (Printed by gen/gx19.py.) -/
namespace Go.Proofs.Ytophjmphjdhjoaa
open Go.RowKit Go.Sort

theorem Mk.app_b {wb w wr w2 : World} {p : Nat} {A : Option Addr} {l : List UInt8} {c g : Nat} {q : RV} (h : Mk wb w wr p A l c g q) {v' : Value} {xs : List UInt8} (ho : OwnL vu8 5 wb w2 v' xs) (he : Ext wb w2)
    (hb : v'.ownBlock = q.vb.ownBlock ∨ v'.ownBlock = some wr.heap.size) (hg : wr.grownBy w2 q.vb.ownBlock) : Mk wb w (w2.setCell ⟨g, 4, none⟩ v') p A l c g ⟨{ q.r with bytes := xs }, v', q.vn, q.vt, q.vk⟩ := by
  have hx := h
  have hglt := h.box.lt
  have hplt := h.cur.lt
  have hfar := h.far
  have hnew := h.new
  have hblk := h.own.block
  simp only [RV.vals] at hnew hblk
  unfold Far RV.vals at hfar
  simp only [List.pairwise_cons, List.mem_cons, List.not_mem_nil, or_false, forall_eq_or_imp, forall_eq] at hfar
  have hsep : ∀ u ∈ [q.vn, q.vt, q.vk], ∀ b, q.vb.ownBlock = some b → u.ownBlock ≠ some b := by
    intro u hu b h1 h2
    simp only [List.mem_cons, List.not_mem_nil, or_false] at hu
    rcases hu with rfl | rfl | rfl
    all_goals
      first
        | exact hfar.1.1 b (by assumption) (by assumption)
        | exact hfar.1.2.1 b (by assumption) (by assumption)
        | exact hfar.1.2.2 b (by assumption) (by assumption)
        | exact hfar.2.1.1 b (by assumption) (by assumption)
        | exact hfar.2.1.2 b (by assumption) (by assumption)
        | exact hfar.2.2.1 b (by assumption) (by assumption)
  have hsep' : ∀ u ∈ [q.vn, q.vt, q.vk], ∀ b, v'.ownBlock = some b → u.ownBlock ≠ some b := by
    intro u hu b h1 h2
    rcases hb with hb | hb
    · exact hsep u hu b (hb.symm.trans h1) h2
    · rw [hb] at h1
      injection h1 with h1
      have := (hblk u (by simp only [List.mem_cons, List.not_mem_nil, or_false] at hu ⊢; rcases hu with rfl | rfl | rfl <;> simp) b h2).2
      omega
  have hnv : ∀ b, v'.ownBlock = some b → w.heap.size ≤ b ∧ b ≠ g ∧ b ≠ p := by
    intro b h1
    rcases hb with hb | hb
    · exact hnew q.vb (by simp) b (hb.symm.trans h1)
    · rw [hb] at h1
      injection h1 with h1
      have := h.grow.size
      omega
  refine Mk.stored (q := q) (q' := ⟨{ q.r with bytes := xs }, v', q.vn, q.vt, q.vk⟩) (Box.moved hx.box hg (fun hh => (hnew q.vb (by simp) g hh).2.1 rfl)) ⟨ho, hx.own.n.keep hg (fun b h1 h2 => hsep q.vn (by simp) b h2 h1), hx.own.t.keep hg (fun b h1 h2 => hsep q.vt (by simp) b h2 h1), hx.own.k.keep hg (fun b h1 h2 => hsep q.vk (by simp) b h2 h1)⟩ ?_ ?_ (Cur.kept hx.cur hg (fun hh => (hnew q.vb (by simp) p hh).2.2 rfl) he)
    (grown_own hx.grow (fun b hh => (hnew q.vb (by simp) b hh).1) hg) h.gw h.gb h.gp 4 v' (by simp [RV.cells])
  · unfold Far RV.vals
    simp only [List.pairwise_cons, List.mem_cons, List.not_mem_nil, or_false, forall_eq_or_imp, forall_eq, false_imp_iff, implies_true, List.Pairwise.nil, and_true]
    refine ⟨⟨?_, ?_, ?_⟩, ⟨?_, ?_⟩, ?_⟩
    all_goals
      intro b h1 h2
      first
        | exact hsep' _ (by simp) b h1 h2
        | exact hsep' _ (by simp) b h2 h1
        | exact hfar.1.1 b h1 h2
        | exact hfar.1.2.1 b h1 h2
        | exact hfar.1.2.2 b h1 h2
        | exact hfar.2.1.1 b h1 h2
        | exact hfar.2.1.2 b h1 h2
        | exact hfar.2.2.1 b h1 h2
  · intro u hu b h1
    simp only [RV.vals, List.mem_cons, List.not_mem_nil, or_false] at hu
    rcases hu with rfl | rfl | rfl | rfl
    all_goals
      first
        | exact hnv b h1
        | exact hnew _ (by simp) b h1
theorem Mk.app_n {wb w wr w2 : World} {p : Nat} {A : Option Addr} {l : List UInt8} {c g : Nat} {q : RV} (h : Mk wb w wr p A l c g q) {v' : Value} {xs : List ByteArray} (ho : OwnL vstr 9 wb w2 v' xs) (he : Ext wb w2)
    (hb : v'.ownBlock = q.vn.ownBlock ∨ v'.ownBlock = some wr.heap.size) (hg : wr.grownBy w2 q.vn.ownBlock) : Mk wb w (w2.setCell ⟨g, 5, none⟩ v') p A l c g ⟨{ q.r with names := xs }, q.vb, v', q.vt, q.vk⟩ := by
  have hx := h
  have hglt := h.box.lt
  have hplt := h.cur.lt
  have hfar := h.far
  have hnew := h.new
  have hblk := h.own.block
  simp only [RV.vals] at hnew hblk
  unfold Far RV.vals at hfar
  simp only [List.pairwise_cons, List.mem_cons, List.not_mem_nil, or_false, forall_eq_or_imp, forall_eq] at hfar
  have hsep : ∀ u ∈ [q.vb, q.vt, q.vk], ∀ b, q.vn.ownBlock = some b → u.ownBlock ≠ some b := by
    intro u hu b h1 h2
    simp only [List.mem_cons, List.not_mem_nil, or_false] at hu
    rcases hu with rfl | rfl | rfl
    all_goals
      first
        | exact hfar.1.1 b (by assumption) (by assumption)
        | exact hfar.1.2.1 b (by assumption) (by assumption)
        | exact hfar.1.2.2 b (by assumption) (by assumption)
        | exact hfar.2.1.1 b (by assumption) (by assumption)
        | exact hfar.2.1.2 b (by assumption) (by assumption)
        | exact hfar.2.2.1 b (by assumption) (by assumption)
  have hsep' : ∀ u ∈ [q.vb, q.vt, q.vk], ∀ b, v'.ownBlock = some b → u.ownBlock ≠ some b := by
    intro u hu b h1 h2
    rcases hb with hb | hb
    · exact hsep u hu b (hb.symm.trans h1) h2
    · rw [hb] at h1
      injection h1 with h1
      have := (hblk u (by simp only [List.mem_cons, List.not_mem_nil, or_false] at hu ⊢; rcases hu with rfl | rfl | rfl <;> simp) b h2).2
      omega
  have hnv : ∀ b, v'.ownBlock = some b → w.heap.size ≤ b ∧ b ≠ g ∧ b ≠ p := by
    intro b h1
    rcases hb with hb | hb
    · exact hnew q.vn (by simp) b (hb.symm.trans h1)
    · rw [hb] at h1
      injection h1 with h1
      have := h.grow.size
      omega
  refine Mk.stored (q := q) (q' := ⟨{ q.r with names := xs }, q.vb, v', q.vt, q.vk⟩) (Box.moved hx.box hg (fun hh => (hnew q.vn (by simp) g hh).2.1 rfl)) ⟨hx.own.b.keep hg (fun b h1 h2 => hsep q.vb (by simp) b h2 h1), ho, hx.own.t.keep hg (fun b h1 h2 => hsep q.vt (by simp) b h2 h1), hx.own.k.keep hg (fun b h1 h2 => hsep q.vk (by simp) b h2 h1)⟩ ?_ ?_ (Cur.kept hx.cur hg (fun hh => (hnew q.vn (by simp) p hh).2.2 rfl) he)
    (grown_own hx.grow (fun b hh => (hnew q.vn (by simp) b hh).1) hg) h.gw h.gb h.gp 5 v' (by simp [RV.cells])
  · unfold Far RV.vals
    simp only [List.pairwise_cons, List.mem_cons, List.not_mem_nil, or_false, forall_eq_or_imp, forall_eq, false_imp_iff, implies_true, List.Pairwise.nil, and_true]
    refine ⟨⟨?_, ?_, ?_⟩, ⟨?_, ?_⟩, ?_⟩
    all_goals
      intro b h1 h2
      first
        | exact hsep' _ (by simp) b h1 h2
        | exact hsep' _ (by simp) b h2 h1
        | exact hfar.1.1 b h1 h2
        | exact hfar.1.2.1 b h1 h2
        | exact hfar.1.2.2 b h1 h2
        | exact hfar.2.1.1 b h1 h2
        | exact hfar.2.1.2 b h1 h2
        | exact hfar.2.2.1 b h1 h2
  · intro u hu b h1
    simp only [RV.vals, List.mem_cons, List.not_mem_nil, or_false] at hu
    rcases hu with rfl | rfl | rfl | rfl
    all_goals
      first
        | exact hnv b h1
        | exact hnew _ (by simp) b h1
theorem Mk.app_t {wb w wr w2 : World} {p : Nat} {A : Option Addr} {l : List UInt8} {c g : Nat} {q : RV} (h : Mk wb w wr p A l c g q) {v' : Value} {xs : List Int} (ho : OwnL vint 3 wb w2 v' xs) (he : Ext wb w2)
    (hb : v'.ownBlock = q.vt.ownBlock ∨ v'.ownBlock = some wr.heap.size) (hg : wr.grownBy w2 q.vt.ownBlock) : Mk wb w (w2.setCell ⟨g, 6, none⟩ v') p A l c g ⟨{ q.r with tags := xs }, q.vb, q.vn, v', q.vk⟩ := by
  have hx := h
  have hglt := h.box.lt
  have hplt := h.cur.lt
  have hfar := h.far
  have hnew := h.new
  have hblk := h.own.block
  simp only [RV.vals] at hnew hblk
  unfold Far RV.vals at hfar
  simp only [List.pairwise_cons, List.mem_cons, List.not_mem_nil, or_false, forall_eq_or_imp, forall_eq] at hfar
  have hsep : ∀ u ∈ [q.vb, q.vn, q.vk], ∀ b, q.vt.ownBlock = some b → u.ownBlock ≠ some b := by
    intro u hu b h1 h2
    simp only [List.mem_cons, List.not_mem_nil, or_false] at hu
    rcases hu with rfl | rfl | rfl
    all_goals
      first
        | exact hfar.1.1 b (by assumption) (by assumption)
        | exact hfar.1.2.1 b (by assumption) (by assumption)
        | exact hfar.1.2.2 b (by assumption) (by assumption)
        | exact hfar.2.1.1 b (by assumption) (by assumption)
        | exact hfar.2.1.2 b (by assumption) (by assumption)
        | exact hfar.2.2.1 b (by assumption) (by assumption)
  have hsep' : ∀ u ∈ [q.vb, q.vn, q.vk], ∀ b, v'.ownBlock = some b → u.ownBlock ≠ some b := by
    intro u hu b h1 h2
    rcases hb with hb | hb
    · exact hsep u hu b (hb.symm.trans h1) h2
    · rw [hb] at h1
      injection h1 with h1
      have := (hblk u (by simp only [List.mem_cons, List.not_mem_nil, or_false] at hu ⊢; rcases hu with rfl | rfl | rfl <;> simp) b h2).2
      omega
  have hnv : ∀ b, v'.ownBlock = some b → w.heap.size ≤ b ∧ b ≠ g ∧ b ≠ p := by
    intro b h1
    rcases hb with hb | hb
    · exact hnew q.vt (by simp) b (hb.symm.trans h1)
    · rw [hb] at h1
      injection h1 with h1
      have := h.grow.size
      omega
  refine Mk.stored (q := q) (q' := ⟨{ q.r with tags := xs }, q.vb, q.vn, v', q.vk⟩) (Box.moved hx.box hg (fun hh => (hnew q.vt (by simp) g hh).2.1 rfl)) ⟨hx.own.b.keep hg (fun b h1 h2 => hsep q.vb (by simp) b h2 h1), hx.own.n.keep hg (fun b h1 h2 => hsep q.vn (by simp) b h2 h1), ho, hx.own.k.keep hg (fun b h1 h2 => hsep q.vk (by simp) b h2 h1)⟩ ?_ ?_ (Cur.kept hx.cur hg (fun hh => (hnew q.vt (by simp) p hh).2.2 rfl) he)
    (grown_own hx.grow (fun b hh => (hnew q.vt (by simp) b hh).1) hg) h.gw h.gb h.gp 6 v' (by simp [RV.cells])
  · unfold Far RV.vals
    simp only [List.pairwise_cons, List.mem_cons, List.not_mem_nil, or_false, forall_eq_or_imp, forall_eq, false_imp_iff, implies_true, List.Pairwise.nil, and_true]
    refine ⟨⟨?_, ?_, ?_⟩, ⟨?_, ?_⟩, ?_⟩
    all_goals
      intro b h1 h2
      first
        | exact hsep' _ (by simp) b h1 h2
        | exact hsep' _ (by simp) b h2 h1
        | exact hfar.1.1 b h1 h2
        | exact hfar.1.2.1 b h1 h2
        | exact hfar.1.2.2 b h1 h2
        | exact hfar.2.1.1 b h1 h2
        | exact hfar.2.1.2 b h1 h2
        | exact hfar.2.2.1 b h1 h2
  · intro u hu b h1
    simp only [RV.vals, List.mem_cons, List.not_mem_nil, or_false] at hu
    rcases hu with rfl | rfl | rfl | rfl
    all_goals
      first
        | exact hnv b h1
        | exact hnew _ (by simp) b h1
theorem Mk.app_k {wb w wr w2 : World} {p : Nat} {A : Option Addr} {l : List UInt8} {c g : Nat} {q : RV} (h : Mk wb w wr p A l c g q) {v' : Value} {xs : List Int} (ho : OwnL vint 3 wb w2 v' xs) (he : Ext wb w2)
    (hb : v'.ownBlock = q.vk.ownBlock ∨ v'.ownBlock = some wr.heap.size) (hg : wr.grownBy w2 q.vk.ownBlock) : Mk wb w (w2.setCell ⟨g, 7, none⟩ v') p A l c g ⟨{ q.r with kids := xs }, q.vb, q.vn, q.vt, v'⟩ := by
  have hx := h
  have hglt := h.box.lt
  have hplt := h.cur.lt
  have hfar := h.far
  have hnew := h.new
  have hblk := h.own.block
  simp only [RV.vals] at hnew hblk
  unfold Far RV.vals at hfar
  simp only [List.pairwise_cons, List.mem_cons, List.not_mem_nil, or_false, forall_eq_or_imp, forall_eq] at hfar
  have hsep : ∀ u ∈ [q.vb, q.vn, q.vt], ∀ b, q.vk.ownBlock = some b → u.ownBlock ≠ some b := by
    intro u hu b h1 h2
    simp only [List.mem_cons, List.not_mem_nil, or_false] at hu
    rcases hu with rfl | rfl | rfl
    all_goals
      first
        | exact hfar.1.1 b (by assumption) (by assumption)
        | exact hfar.1.2.1 b (by assumption) (by assumption)
        | exact hfar.1.2.2 b (by assumption) (by assumption)
        | exact hfar.2.1.1 b (by assumption) (by assumption)
        | exact hfar.2.1.2 b (by assumption) (by assumption)
        | exact hfar.2.2.1 b (by assumption) (by assumption)
  have hsep' : ∀ u ∈ [q.vb, q.vn, q.vt], ∀ b, v'.ownBlock = some b → u.ownBlock ≠ some b := by
    intro u hu b h1 h2
    rcases hb with hb | hb
    · exact hsep u hu b (hb.symm.trans h1) h2
    · rw [hb] at h1
      injection h1 with h1
      have := (hblk u (by simp only [List.mem_cons, List.not_mem_nil, or_false] at hu ⊢; rcases hu with rfl | rfl | rfl <;> simp) b h2).2
      omega
  have hnv : ∀ b, v'.ownBlock = some b → w.heap.size ≤ b ∧ b ≠ g ∧ b ≠ p := by
    intro b h1
    rcases hb with hb | hb
    · exact hnew q.vk (by simp) b (hb.symm.trans h1)
    · rw [hb] at h1
      injection h1 with h1
      have := h.grow.size
      omega
  refine Mk.stored (q := q) (q' := ⟨{ q.r with kids := xs }, q.vb, q.vn, q.vt, v'⟩) (Box.moved hx.box hg (fun hh => (hnew q.vk (by simp) g hh).2.1 rfl)) ⟨hx.own.b.keep hg (fun b h1 h2 => hsep q.vb (by simp) b h2 h1), hx.own.n.keep hg (fun b h1 h2 => hsep q.vn (by simp) b h2 h1), hx.own.t.keep hg (fun b h1 h2 => hsep q.vt (by simp) b h2 h1), ho⟩ ?_ ?_ (Cur.kept hx.cur hg (fun hh => (hnew q.vk (by simp) p hh).2.2 rfl) he)
    (grown_own hx.grow (fun b hh => (hnew q.vk (by simp) b hh).1) hg) h.gw h.gb h.gp 7 v' (by simp [RV.cells])
  · unfold Far RV.vals
    simp only [List.pairwise_cons, List.mem_cons, List.not_mem_nil, or_false, forall_eq_or_imp, forall_eq, false_imp_iff, implies_true, List.Pairwise.nil, and_true]
    refine ⟨⟨?_, ?_, ?_⟩, ⟨?_, ?_⟩, ?_⟩
    all_goals
      intro b h1 h2
      first
        | exact hsep' _ (by simp) b h1 h2
        | exact hsep' _ (by simp) b h2 h1
        | exact hfar.1.1 b h1 h2
        | exact hfar.1.2.1 b h1 h2
        | exact hfar.1.2.2 b h1 h2
        | exact hfar.2.1.1 b h1 h2
        | exact hfar.2.1.2 b h1 h2
        | exact hfar.2.2.1 b h1 h2
  · intro u hu b h1
    simp only [RV.vals, List.mem_cons, List.not_mem_nil, or_false] at hu
    rcases hu with rfl | rfl | rfl | rfl
    all_goals
      first
        | exact hnv b h1
        | exact hnew _ (by simp) b h1
end Go.Proofs.Ytophjmphjdhjoaa

/- Draws of descriptions: l4Integer (one of the rules of kind 1). -/
namespace Go.Proofs.Ytophjmphjdhjoaa
open Go.RowKit Go.Sort

set_option maxRecDepth 100000 in
set_option maxHeartbeats 2000000 in
theorem l4Integer_c (Ad : Option Addr) (ds : List DRule) (cd : Nat) (hD0 : 0 < ds.length) (hDn : ds.length ≤ 64) (hk : ∃ i, ∃ h : i < ds.length, ds[i].kind = 1) (wb w : World) (p : Nat) (A : Option Addr) (l : List UInt8) (c : Nat) (hA : Bs wb A l c) (hC : Cur wb w p A l c) (hD : RdD w Ad ds cd) :
    Calls Try.prog 56 #[.pointer (some ⟨p, 0, none⟩), vdesc (.slice Ad ds.length cd)] w fun e w' => ∃ x : Nat, ∃ hx : x < ds.length, ds[x].kind = 1 ∧ e = .returned (.int .i64 x) ∧ Cur wb w' p A l c ∧ w.grownBy w' (some p) := by
  have hplt := hC.lt
  have eb := Ext_alloc (.cells #[.slice Ad ds.length cd] 26) (Ext.refl w)
  have B0 := fun w' (e : Ext (w.alloc (.cells #[.slice Ad ds.length cd] 26)) w') => boxed e
  obtain ⟨W1, hW1⟩ : ∃ W1, W1 = w.alloc (.cells #[.slice Ad ds.length cd] 26) := ⟨_, rfl⟩
  have hs1 : W1.heap.size = w.heap.size + 1 := by rw [hW1]; simp
  have HW1 := Lib.hid hW1
  rw [← hW1] at eb B0
  clear hW1
  have ey := Ext_alloc (.cells #[] 3) (Ext.refl W1)
  have HO : Hid (OwnL vint 3 W1 (W1.alloc (.cells #[] 3)) (.slice (some ⟨w.heap.size + 1, 0, none⟩) 0 0) []) := by
    have := OwnL.empty (f := vint) (e := 3) (Ext.refl W1)
    rw [hs1] at this
    exact this
  unfold vdesc
  go_enter Try.func56, Try.ntmps56
  go_wp2_with fail
  rw [← HW1.out]
  go_wp2
  go_loopw [5, 6] (fun t i wr => ∃ (k : Nat) (L : List Int), k ≤ ds.length ∧ L.length ≤ k ∧ i = .int .i64 k ∧ Hid (∀ x ∈ L, ∃ n : Nat, ∃ h : n < ds.length, x = (n : Int) ∧ ds[n].kind = 1) ∧ Hid ((∃ i, ∃ h : i < ds.length, i < k ∧ ds[i].kind = 1) → L ≠ []) ∧ Hid (OwnL vint 3 W1 wr t L) ∧ Ext W1 wr) (fun _ i _ => ds.length - (intOf i).toNat)
  case atStart => exact ⟨0, [], by omega, by simp, rfl, (fun x hx => by simp at hx), (fun ⟨i, _, h, _⟩ => by omega), HO, ey⟩
  case round =>
    clear HO ey
    obtain ⟨k, L, hkl, hLk, rfl, hL, hne, ho, he⟩ := hrel
    replace B0 := fun w' (e : Ext wr w') => B0 w' (he.trans e)
    by_cases hlt : k < ds.length
    · obtain ⟨b, off, Ab, cb, An, cn, At, ct, Ak, ck, rfl, hb, _, hRa⟩ := (hD.ext (eb.trans he)).at k hlt
      have HN : Hid (∀ L' : List Int, (ds[k].kind = 1 → L' ≠ []) → (L ≠ [] → L' ≠ []) → ((∃ i, ∃ h : i < ds.length, i < k + 1 ∧ ds[i].kind = 1) → L' ≠ [])) := fun L' h1 h2 ⟨i, hi, hik, h3⟩ => by
        rcases (by omega : i < k ∨ i = k) with h4 | rfl
        · exact h2 (hne.out ⟨i, hi, h4, h3⟩)
        · exact h1 h3
      obtain ⟨l0, l1, l2, l3, l4, l5, l6, l7⟩ := hRa
      clear hne
      have HKK : Hid (ds[k].kind = 1 → ∃ n : Nat, ∃ h : n < ds.length, (k : Int) = (n : Int) ∧ ds[n].kind = 1) := fun h => ⟨k, hlt, rfl, h⟩
      generalize ds[k] = r at *
      cases hkk : (r.kind == 1)
      · have HNk : Hid ((∃ i, ∃ h : i < ds.length, i < k + 1 ∧ ds[i].kind = 1) → L ≠ []) := HN.out L (fun h => by rw [h] at hkk; simp at hkk) (fun h => h)
        clear HN
        go_wp2
        go_roundw
        case rel => exact ⟨k + 1, L, by omega, by omega, by go_num, hL, HNk, ho, he⟩
        case measure => simp [intOf]; omega
      · have HNk : Hid ((∃ i, ∃ h : i < ds.length, i < k + 1 ∧ ds[i].kind = 1) → L ++ [(k : Int)] ≠ []) := HN.out _ (fun _ => by simp) (fun _ => by simp)
        have HL2 : Hid (∀ x ∈ L ++ [(k : Int)], ∃ n : Nat, ∃ h : n < ds.length, x = (n : Int) ∧ ds[n].kind = 1) := fun x hx => by
          rcases List.mem_append.1 hx with hx | hx
          · exact hL.out x hx
          · rw [List.mem_singleton.1 hx]; exact HKK.out (by simpa using hkk)
        have HB : Hid ((L.length + [(k : Int)].length) * 8 ≤ 140737488355328) := by show _ ≤ _; simp; omega
        clear HN
        go_wp2_with (at_builtin; refine wpList_appN rfl (.tmp 22) (.tmp 24) _ rfl E_int (by omega) W1 _ vint (fun _ => rfl) _ rfl _ _ rfl L [(k : Int)] _ rfl ho.out he rfl HB.out ?_; intro v4 w4 ho4 he4)
        have HO4 := Lib.hid ho4; clear ho4
        go_wp2
        go_roundw
        case rel => exact ⟨k + 1, L ++ [(k : Int)], by omega, by simp; omega, by go_num, HL2, HNk, HO4, he4⟩
        case measure => simp [intOf]; omega
    · obtain rfl : k = ds.length := by omega
      have hLne : L ≠ [] := hne.out (let ⟨i, hi, h⟩ := hk; ⟨i, hi, hi, h⟩)
      have hLp : 0 < L.length := List.length_pos_iff.2 hLne
      obtain ⟨Ax, cx, hvx, rx⟩ := OwnL.rd ho.out (by omega)
      subst hvx
      have hCr := hC.ext (eb.trans he)
      have CI := Lib.hid (l1Int_c Ax L cx hLp (by omega) wb wr p A l c hA hCr (fun w' hg i hi => by
        have h1 := OwnL.moved ho.out hg (fun hh => by have := (World.ownsRow.lt ho.out _ hh).1; omega)
        obtain ⟨Ay, cy, hvy, ry⟩ := OwnL.rd h1 (by omega)
        injection hvy with q1 _ q2; subst q1; subst q2
        obtain ⟨b, off, h2, _, h3⟩ := ry.at i hi
        exact ⟨b, off, h2, h3 w' (Ext.refl _)⟩))
      have eT := eb.trans he
      clear hne hLne hC
      go_wp2_with fail
      refine CI.out.mono ?_; rintro _ w5 ⟨x, hx, rfl, hC5, hg5⟩
      obtain ⟨n, hnl, rfl, hnk⟩ := hL.out x hx
      have HNL := Lib.hid hnk; clear hnk
      go_wp2
      go_ret
      first
        | exact ⟨n, hnl, HNL.out, rfl, hC5, (grown_ext eT _).trans hg5⟩
        | exact ⟨hnl, HNL.out, hC5, (grown_ext eT _).trans hg5⟩
end Go.Proofs.Ytophjmphjdhjoaa

/- A drawn rule while it is made: a row made just now is stored into its box. (Printed by gen/gx20.py.) -/
namespace Go.Proofs.Ytophjmphjdhjoaa
open Go.RowKit Go.Sort

/-- the cells of a rule's box -/
theorem cells8 {W : World} {g : Nat} {q : RV} (h : Box W g q.cells.toArray 35) :
    (W.cell? ⟨g, 0, none⟩ = some (.string q.r.nm) ∧ W.cell? ⟨g, 1, none⟩ = some (.int .i64 q.r.kind) ∧ W.cell? ⟨g, 2, none⟩ = some (.int .i64 q.r.size) ∧ W.cell? ⟨g, 3, none⟩ = some (.bool q.r.little)) ∧
    W.cell? ⟨g, 4, none⟩ = some q.vb ∧ W.cell? ⟨g, 5, none⟩ = some q.vn ∧ W.cell? ⟨g, 6, none⟩ = some q.vt ∧ W.cell? ⟨g, 7, none⟩ = some q.vk :=
  ⟨⟨h.cell 0, h.cell 1, h.cell 2, h.cell 3⟩, h.cell 4, h.cell 5, h.cell 6, h.cell 7⟩
theorem frees8 {W : World} {g : Nat} {cs : Array Value} {T : TypeId} (h : Box W g cs T) : (W.frozen? ⟨g, 0, none⟩ = false ∧ W.frozen? ⟨g, 1, none⟩ = false ∧ W.frozen? ⟨g, 2, none⟩ = false ∧ W.frozen? ⟨g, 3, none⟩ = false) ∧ W.frozen? ⟨g, 4, none⟩ = false ∧ W.frozen? ⟨g, 5, none⟩ = false ∧ W.frozen? ⟨g, 6, none⟩ = false ∧ W.frozen? ⟨g, 7, none⟩ = false :=
  ⟨⟨h.free 0, h.free 1, h.free 2, h.free 3⟩, h.free 4, h.free 5, h.free 6, h.free 7⟩
theorem Mk.fresh_b {wb w w2 : World} {p : Nat} {A : Option Addr} {l : List UInt8} {c g : Nat} {q : RV} (h : Mk wb w w2 p A l c g q) {v' : Value} {xs : List UInt8} (ho : OwnL vu8 5 wb w2 v' xs) {n0 : Nat}
    (hv : ∀ b, v'.ownBlock = some b → n0 ≤ b) (hold : ∀ u ∈ q.vals, ∀ b, u.ownBlock = some b → b < n0) (hg : g < n0) (hp : p < n0) (hw : w.heap.size ≤ n0) : Mk wb w (w2.setCell ⟨g, 4, none⟩ v') p A l c g ⟨{ q.r with bytes := xs }, v', q.vn, q.vt, q.vk⟩ := by
  have hfar := h.far
  have hnew := h.new
  simp only [RV.vals] at hnew hold
  unfold Far RV.vals at hfar
  simp only [List.pairwise_cons, List.mem_cons, List.not_mem_nil, or_false, forall_eq_or_imp, forall_eq] at hfar
  have hsep' : ∀ u ∈ [q.vn, q.vt, q.vk], ∀ b, v'.ownBlock = some b → u.ownBlock ≠ some b := by
    intro u hu b h1 h2
    have := hv b h1
    have := hold u (by simp only [List.mem_cons, List.not_mem_nil, or_false] at hu ⊢; rcases hu with rfl | rfl | rfl <;> simp) b h2
    omega
  refine Mk.stored (q := q) (q' := ⟨{ q.r with bytes := xs }, v', q.vn, q.vt, q.vk⟩) h.box ⟨ho, h.own.n, h.own.t, h.own.k⟩ ?_ ?_ h.cur h.grow h.gw h.gb h.gp 4 v' (by simp [RV.cells])
  · unfold Far RV.vals
    simp only [List.pairwise_cons, List.mem_cons, List.not_mem_nil, or_false, forall_eq_or_imp, forall_eq, false_imp_iff, implies_true, List.Pairwise.nil, and_true]
    refine ⟨⟨?_, ?_, ?_⟩, ⟨?_, ?_⟩, ?_⟩
    all_goals
      intro b h1 h2
      first
        | exact hsep' _ (by simp) b h1 h2
        | exact hsep' _ (by simp) b h2 h1
        | exact hfar.1.1 b h1 h2
        | exact hfar.1.2.1 b h1 h2
        | exact hfar.1.2.2 b h1 h2
        | exact hfar.2.1.1 b h1 h2
        | exact hfar.2.1.2 b h1 h2
        | exact hfar.2.2.1 b h1 h2
  · intro u hu b h1
    simp only [RV.vals, List.mem_cons, List.not_mem_nil, or_false] at hu
    rcases hu with rfl | rfl | rfl | rfl
    all_goals
      first
        | (have h2 := hv b h1; exact ⟨by omega, by omega, by omega⟩)
        | exact hnew _ (by simp) b h1
theorem Mk.fresh_n {wb w w2 : World} {p : Nat} {A : Option Addr} {l : List UInt8} {c g : Nat} {q : RV} (h : Mk wb w w2 p A l c g q) {v' : Value} {xs : List ByteArray} (ho : OwnL vstr 9 wb w2 v' xs) {n0 : Nat}
    (hv : ∀ b, v'.ownBlock = some b → n0 ≤ b) (hold : ∀ u ∈ q.vals, ∀ b, u.ownBlock = some b → b < n0) (hg : g < n0) (hp : p < n0) (hw : w.heap.size ≤ n0) : Mk wb w (w2.setCell ⟨g, 5, none⟩ v') p A l c g ⟨{ q.r with names := xs }, q.vb, v', q.vt, q.vk⟩ := by
  have hfar := h.far
  have hnew := h.new
  simp only [RV.vals] at hnew hold
  unfold Far RV.vals at hfar
  simp only [List.pairwise_cons, List.mem_cons, List.not_mem_nil, or_false, forall_eq_or_imp, forall_eq] at hfar
  have hsep' : ∀ u ∈ [q.vb, q.vt, q.vk], ∀ b, v'.ownBlock = some b → u.ownBlock ≠ some b := by
    intro u hu b h1 h2
    have := hv b h1
    have := hold u (by simp only [List.mem_cons, List.not_mem_nil, or_false] at hu ⊢; rcases hu with rfl | rfl | rfl <;> simp) b h2
    omega
  refine Mk.stored (q := q) (q' := ⟨{ q.r with names := xs }, q.vb, v', q.vt, q.vk⟩) h.box ⟨h.own.b, ho, h.own.t, h.own.k⟩ ?_ ?_ h.cur h.grow h.gw h.gb h.gp 5 v' (by simp [RV.cells])
  · unfold Far RV.vals
    simp only [List.pairwise_cons, List.mem_cons, List.not_mem_nil, or_false, forall_eq_or_imp, forall_eq, false_imp_iff, implies_true, List.Pairwise.nil, and_true]
    refine ⟨⟨?_, ?_, ?_⟩, ⟨?_, ?_⟩, ?_⟩
    all_goals
      intro b h1 h2
      first
        | exact hsep' _ (by simp) b h1 h2
        | exact hsep' _ (by simp) b h2 h1
        | exact hfar.1.1 b h1 h2
        | exact hfar.1.2.1 b h1 h2
        | exact hfar.1.2.2 b h1 h2
        | exact hfar.2.1.1 b h1 h2
        | exact hfar.2.1.2 b h1 h2
        | exact hfar.2.2.1 b h1 h2
  · intro u hu b h1
    simp only [RV.vals, List.mem_cons, List.not_mem_nil, or_false] at hu
    rcases hu with rfl | rfl | rfl | rfl
    all_goals
      first
        | (have h2 := hv b h1; exact ⟨by omega, by omega, by omega⟩)
        | exact hnew _ (by simp) b h1
theorem Mk.fresh_t {wb w w2 : World} {p : Nat} {A : Option Addr} {l : List UInt8} {c g : Nat} {q : RV} (h : Mk wb w w2 p A l c g q) {v' : Value} {xs : List Int} (ho : OwnL vint 3 wb w2 v' xs) {n0 : Nat}
    (hv : ∀ b, v'.ownBlock = some b → n0 ≤ b) (hold : ∀ u ∈ q.vals, ∀ b, u.ownBlock = some b → b < n0) (hg : g < n0) (hp : p < n0) (hw : w.heap.size ≤ n0) : Mk wb w (w2.setCell ⟨g, 6, none⟩ v') p A l c g ⟨{ q.r with tags := xs }, q.vb, q.vn, v', q.vk⟩ := by
  have hfar := h.far
  have hnew := h.new
  simp only [RV.vals] at hnew hold
  unfold Far RV.vals at hfar
  simp only [List.pairwise_cons, List.mem_cons, List.not_mem_nil, or_false, forall_eq_or_imp, forall_eq] at hfar
  have hsep' : ∀ u ∈ [q.vb, q.vn, q.vk], ∀ b, v'.ownBlock = some b → u.ownBlock ≠ some b := by
    intro u hu b h1 h2
    have := hv b h1
    have := hold u (by simp only [List.mem_cons, List.not_mem_nil, or_false] at hu ⊢; rcases hu with rfl | rfl | rfl <;> simp) b h2
    omega
  refine Mk.stored (q := q) (q' := ⟨{ q.r with tags := xs }, q.vb, q.vn, v', q.vk⟩) h.box ⟨h.own.b, h.own.n, ho, h.own.k⟩ ?_ ?_ h.cur h.grow h.gw h.gb h.gp 6 v' (by simp [RV.cells])
  · unfold Far RV.vals
    simp only [List.pairwise_cons, List.mem_cons, List.not_mem_nil, or_false, forall_eq_or_imp, forall_eq, false_imp_iff, implies_true, List.Pairwise.nil, and_true]
    refine ⟨⟨?_, ?_, ?_⟩, ⟨?_, ?_⟩, ?_⟩
    all_goals
      intro b h1 h2
      first
        | exact hsep' _ (by simp) b h1 h2
        | exact hsep' _ (by simp) b h2 h1
        | exact hfar.1.1 b h1 h2
        | exact hfar.1.2.1 b h1 h2
        | exact hfar.1.2.2 b h1 h2
        | exact hfar.2.1.1 b h1 h2
        | exact hfar.2.1.2 b h1 h2
        | exact hfar.2.2.1 b h1 h2
  · intro u hu b h1
    simp only [RV.vals, List.mem_cons, List.not_mem_nil, or_false] at hu
    rcases hu with rfl | rfl | rfl | rfl
    all_goals
      first
        | (have h2 := hv b h1; exact ⟨by omega, by omega, by omega⟩)
        | exact hnew _ (by simp) b h1
theorem Mk.fresh_k {wb w w2 : World} {p : Nat} {A : Option Addr} {l : List UInt8} {c g : Nat} {q : RV} (h : Mk wb w w2 p A l c g q) {v' : Value} {xs : List Int} (ho : OwnL vint 3 wb w2 v' xs) {n0 : Nat}
    (hv : ∀ b, v'.ownBlock = some b → n0 ≤ b) (hold : ∀ u ∈ q.vals, ∀ b, u.ownBlock = some b → b < n0) (hg : g < n0) (hp : p < n0) (hw : w.heap.size ≤ n0) : Mk wb w (w2.setCell ⟨g, 7, none⟩ v') p A l c g ⟨{ q.r with kids := xs }, q.vb, q.vn, q.vt, v'⟩ := by
  have hfar := h.far
  have hnew := h.new
  simp only [RV.vals] at hnew hold
  unfold Far RV.vals at hfar
  simp only [List.pairwise_cons, List.mem_cons, List.not_mem_nil, or_false, forall_eq_or_imp, forall_eq] at hfar
  have hsep' : ∀ u ∈ [q.vb, q.vn, q.vt], ∀ b, v'.ownBlock = some b → u.ownBlock ≠ some b := by
    intro u hu b h1 h2
    have := hv b h1
    have := hold u (by simp only [List.mem_cons, List.not_mem_nil, or_false] at hu ⊢; rcases hu with rfl | rfl | rfl <;> simp) b h2
    omega
  refine Mk.stored (q := q) (q' := ⟨{ q.r with kids := xs }, q.vb, q.vn, q.vt, v'⟩) h.box ⟨h.own.b, h.own.n, h.own.t, ho⟩ ?_ ?_ h.cur h.grow h.gw h.gb h.gp 7 v' (by simp [RV.cells])
  · unfold Far RV.vals
    simp only [List.pairwise_cons, List.mem_cons, List.not_mem_nil, or_false, forall_eq_or_imp, forall_eq, false_imp_iff, implies_true, List.Pairwise.nil, and_true]
    refine ⟨⟨?_, ?_, ?_⟩, ⟨?_, ?_⟩, ?_⟩
    all_goals
      intro b h1 h2
      first
        | exact hsep' _ (by simp) b h1 h2
        | exact hsep' _ (by simp) b h2 h1
        | exact hfar.1.1 b h1 h2
        | exact hfar.1.2.1 b h1 h2
        | exact hfar.1.2.2 b h1 h2
        | exact hfar.2.1.1 b h1 h2
        | exact hfar.2.1.2 b h1 h2
        | exact hfar.2.2.1 b h1 h2
  · intro u hu b h1
    simp only [RV.vals, List.mem_cons, List.not_mem_nil, or_false] at hu
    rcases hu with rfl | rfl | rfl | rfl
    all_goals
      first
        | (have h2 := hv b h1; exact ⟨by omega, by omega, by omega⟩)
        | exact hnew _ (by simp) b h1
end Go.Proofs.Ytophjmphjdhjoaa

/- A drawn rule goes out: its eight cells are stored into the result's box. -/
namespace Go.Proofs.Ytophjmphjdhjoaa
open Go.RowKit Go.Sort

theorem Mk.step {wb w W : World} {p : Nat} {A : Option Addr} {l : List UInt8} {c : Nat} {q : RV} {R : Nat} (h : RuleOwn wb W q ∧ Cur wb W p A l c ∧ w.grownBy W (some p)) (hRw : w.heap.size ≤ R) (hRb : wb.heap.size ≤ R) (hRp : R ≠ p) (hRn : ∀ u ∈ q.vals, ∀ b, u.ownBlock = some b → b ≠ R) (i : Nat) (u : Value) :
    RuleOwn wb (W.setCell ⟨R, i, none⟩ u) q ∧ Cur wb (W.setCell ⟨R, i, none⟩ u) p A l c ∧ w.grownBy (W.setCell ⟨R, i, none⟩ u) (some p) :=
  ⟨h.1.keep (grown_set W ⟨R, i, none⟩ u) (fun v hv b hb he => by injection he with he; exact hRn v hv b hb he.symm), h.2.1.set (a := ⟨R, i, none⟩) hRp hRb u, grown_new (a := ⟨R, i, none⟩) h.2.2 hRw u⟩
theorem Mk.out {wb w W : World} {p : Nat} {A : Option Addr} {l : List UInt8} {c g : Nat} {q : RV} (h : Mk wb w W p A l c g q) {R : Nat} {x0 x1 x2 x3 x4 x5 x6 x7 : Value} {T : TypeId} (hR : Box W R #[x0, x1, x2, x3, x4, x5, x6, x7] T) (hRw : w.heap.size ≤ R) (hRb : wb.heap.size ≤ R) (hRp : R ≠ p) (hRn : ∀ u ∈ q.vals, ∀ b, u.ownBlock = some b → b ≠ R) :
    Box ((((((((W.setCell ⟨R, 0, none⟩ (.string q.r.nm)).setCell ⟨R, 1, none⟩ (.int .i64 q.r.kind)).setCell ⟨R, 2, none⟩ (.int .i64 q.r.size)).setCell ⟨R, 3, none⟩ (.bool q.r.little)).setCell ⟨R, 4, none⟩ q.vb).setCell ⟨R, 5, none⟩ q.vn).setCell ⟨R, 6, none⟩ q.vt).setCell ⟨R, 7, none⟩ q.vk) R #[.string q.r.nm, .int .i64 q.r.kind, .int .i64 q.r.size, .bool q.r.little, q.vb, q.vn, q.vt, q.vk] T ∧
    RuleOwn wb ((((((((W.setCell ⟨R, 0, none⟩ (.string q.r.nm)).setCell ⟨R, 1, none⟩ (.int .i64 q.r.kind)).setCell ⟨R, 2, none⟩ (.int .i64 q.r.size)).setCell ⟨R, 3, none⟩ (.bool q.r.little)).setCell ⟨R, 4, none⟩ q.vb).setCell ⟨R, 5, none⟩ q.vn).setCell ⟨R, 6, none⟩ q.vt).setCell ⟨R, 7, none⟩ q.vk) q ∧
    Cur wb ((((((((W.setCell ⟨R, 0, none⟩ (.string q.r.nm)).setCell ⟨R, 1, none⟩ (.int .i64 q.r.kind)).setCell ⟨R, 2, none⟩ (.int .i64 q.r.size)).setCell ⟨R, 3, none⟩ (.bool q.r.little)).setCell ⟨R, 4, none⟩ q.vb).setCell ⟨R, 5, none⟩ q.vn).setCell ⟨R, 6, none⟩ q.vt).setCell ⟨R, 7, none⟩ q.vk) p A l c ∧
    w.grownBy ((((((((W.setCell ⟨R, 0, none⟩ (.string q.r.nm)).setCell ⟨R, 1, none⟩ (.int .i64 q.r.kind)).setCell ⟨R, 2, none⟩ (.int .i64 q.r.size)).setCell ⟨R, 3, none⟩ (.bool q.r.little)).setCell ⟨R, 4, none⟩ q.vb).setCell ⟨R, 5, none⟩ q.vn).setCell ⟨R, 6, none⟩ q.vt).setCell ⟨R, 7, none⟩ q.vk) (some p) := by
  refine ⟨?_, ?_⟩
  · have := (((((((hR.set 0 (.string q.r.nm)).set 1 (.int .i64 q.r.kind)).set 2 (.int .i64 q.r.size)).set 3 (.bool q.r.little)).set 4 q.vb).set 5 q.vn).set 6 q.vt).set 7 q.vk
    simpa using this
  · exact Mk.step (Mk.step (Mk.step (Mk.step (Mk.step (Mk.step (Mk.step (Mk.step ⟨h.own, h.cur, h.grow⟩ hRw hRb hRp hRn 0 _) hRw hRb hRp hRn 1 _) hRw hRb hRp hRn 2 _) hRw hRb hRp hRn 3 _) hRw hRb hRp hRn 4 _) hRw hRb hRp hRn 5 _) hRw hRb hRp hRn 6 _) hRw hRb hRp hRn 7 _
end Go.Proofs.Ytophjmphjdhjoaa

/- A drawn rule while it is made, with the box of the result: the step of an append to one of its rows. -/
namespace Go.Proofs.Ytophjmphjdhjoaa
open Go.RowKit Go.Sort

/-- the sizes of a drawn rule -/
structure SmallR (r : DRule) : Prop where
  nm : r.nm.size ≤ 40
  lens : r.bytes.length ≤ 8 ∧ r.names.length ≤ 8 ∧ r.tags.length ≤ 8 ∧ r.kids.length ≤ 8
  nms : ∀ t ∈ r.names, t.size ≤ 40
  ints : (-100000 ≤ r.size ∧ r.size ≤ 100000) ∧ (∀ x ∈ r.tags, -100000 ≤ x ∧ x ≤ 100000) ∧ ∀ x ∈ r.kids, -100000 ≤ x ∧ x ≤ 100000
abbrev rule0 : Array Value := #[.string ⟨#[]⟩, .int .i64 0, .int .i64 0, .bool false, .slice none 0 0, .slice none 0 0, .slice none 0 0, .slice none 0 0]
structure MS (wb w wr : World) (p : Nat) (A : Option Addr) (l : List UInt8) (c g : Nat) (q : RV) (R : Nat) : Prop where
  M : Mk wb w wr p A l c g q
  res : Box wr R rule0 35
  nR : ∀ u ∈ q.vals, ∀ b, u.ownBlock = some b → b ≠ R
  gR : g ≠ R
  pR : p ≠ R
theorem MS.moved {wb w wr w' : World} {p : Nat} {A : Option Addr} {l : List UInt8} {c g : Nat} {q : RV} {R : Nat} (h : MS wb w wr p A l c g q R) (hC : Cur wb w' p A l c) (hg : wr.grownBy w' (some p)) : MS wb w w' p A l c g q R :=
  ⟨h.M.moved hC hg, h.res.moved hg (some_ne h.pR), h.nR, h.gR, h.pR⟩
theorem MS.ext {wb w wr w' : World} {p : Nat} {A : Option Addr} {l : List UInt8} {c g : Nat} {q : RV} {R : Nat} (h : MS wb w wr p A l c g q R) (e : Ext wr w') : MS wb w w' p A l c g q R :=
  h.moved (h.M.cur.ext e) (grown_ext e _)
theorem MS.app_n {wb w wr w2 : World} {p : Nat} {A : Option Addr} {l : List UInt8} {c g : Nat} {q : RV} {R : Nat} (h : MS wb w wr p A l c g q R) {v' : Value} {xs : List ByteArray} (ho : OwnL vstr 9 wb w2 v' xs) (he : Ext wb w2)
    (hb : v'.ownBlock = q.vn.ownBlock ∨ v'.ownBlock = some wr.heap.size) (hg : wr.grownBy w2 q.vn.ownBlock) : (w2.cell? ⟨g, 5, none⟩ = some q.vn ∧ w2.frozen? ⟨g, 5, none⟩ = false) ∧ MS wb w (w2.setCell ⟨g, 5, none⟩ v') p A l c g ⟨{ q.r with names := xs }, q.vb, v', q.vt, q.vk⟩ R := by
  have hB : Box w2 g q.cells.toArray 35 := Box.moved h.M.box hg (fun hh => (h.M.new q.vn (by simp [RV.vals]) g hh).2.1 rfl)
  have hR : Box w2 R rule0 35 := Box.moved h.res hg (fun hh => h.nR q.vn (by simp [RV.vals]) R hh rfl)
  refine ⟨⟨hB.cell 5, hB.free 5⟩, h.M.app_n ho he hb hg, hR.other (fun hh => h.gR hh.symm) _ _, ?_, h.gR, h.pR⟩
  intro u hu b h1
  have hlt := h.res.lt
  simp only [RV.vals, List.mem_cons, List.not_mem_nil, or_false] at hu
  rcases hu with rfl | rfl | rfl | rfl
  all_goals
    first
      | (rcases hb with hb | hb
         · exact h.nR q.vn (by simp [RV.vals]) b (hb.symm.trans h1)
         · rw [hb] at h1; injection h1 with h1; omega)
      | exact h.nR _ (by simp [RV.vals]) b h1
theorem MS.app_t {wb w wr w2 : World} {p : Nat} {A : Option Addr} {l : List UInt8} {c g : Nat} {q : RV} {R : Nat} (h : MS wb w wr p A l c g q R) {v' : Value} {xs : List Int} (ho : OwnL vint 3 wb w2 v' xs) (he : Ext wb w2)
    (hb : v'.ownBlock = q.vt.ownBlock ∨ v'.ownBlock = some wr.heap.size) (hg : wr.grownBy w2 q.vt.ownBlock) : (w2.cell? ⟨g, 6, none⟩ = some q.vt ∧ w2.frozen? ⟨g, 6, none⟩ = false) ∧ MS wb w (w2.setCell ⟨g, 6, none⟩ v') p A l c g ⟨{ q.r with tags := xs }, q.vb, q.vn, v', q.vk⟩ R := by
  have hB : Box w2 g q.cells.toArray 35 := Box.moved h.M.box hg (fun hh => (h.M.new q.vt (by simp [RV.vals]) g hh).2.1 rfl)
  have hR : Box w2 R rule0 35 := Box.moved h.res hg (fun hh => h.nR q.vt (by simp [RV.vals]) R hh rfl)
  refine ⟨⟨hB.cell 6, hB.free 6⟩, h.M.app_t ho he hb hg, hR.other (fun hh => h.gR hh.symm) _ _, ?_, h.gR, h.pR⟩
  intro u hu b h1
  have hlt := h.res.lt
  simp only [RV.vals, List.mem_cons, List.not_mem_nil, or_false] at hu
  rcases hu with rfl | rfl | rfl | rfl
  all_goals
    first
      | (rcases hb with hb | hb
         · exact h.nR q.vt (by simp [RV.vals]) b (hb.symm.trans h1)
         · rw [hb] at h1; injection h1 with h1; omega)
      | exact h.nR _ (by simp [RV.vals]) b h1
theorem MS.app_k {wb w wr w2 : World} {p : Nat} {A : Option Addr} {l : List UInt8} {c g : Nat} {q : RV} {R : Nat} (h : MS wb w wr p A l c g q R) {v' : Value} {xs : List Int} (ho : OwnL vint 3 wb w2 v' xs) (he : Ext wb w2)
    (hb : v'.ownBlock = q.vk.ownBlock ∨ v'.ownBlock = some wr.heap.size) (hg : wr.grownBy w2 q.vk.ownBlock) : (w2.cell? ⟨g, 7, none⟩ = some q.vk ∧ w2.frozen? ⟨g, 7, none⟩ = false) ∧ MS wb w (w2.setCell ⟨g, 7, none⟩ v') p A l c g ⟨{ q.r with kids := xs }, q.vb, q.vn, q.vt, v'⟩ R := by
  have hB : Box w2 g q.cells.toArray 35 := Box.moved h.M.box hg (fun hh => (h.M.new q.vk (by simp [RV.vals]) g hh).2.1 rfl)
  have hR : Box w2 R rule0 35 := Box.moved h.res hg (fun hh => h.nR q.vk (by simp [RV.vals]) R hh rfl)
  refine ⟨⟨hB.cell 7, hB.free 7⟩, h.M.app_k ho he hb hg, hR.other (fun hh => h.gR hh.symm) _ _, ?_, h.gR, h.pR⟩
  intro u hu b h1
  have hlt := h.res.lt
  simp only [RV.vals, List.mem_cons, List.not_mem_nil, or_false] at hu
  rcases hu with rfl | rfl | rfl | rfl
  all_goals
    first
      | (rcases hb with hb | hb
         · exact h.nR q.vk (by simp [RV.vals]) b (hb.symm.trans h1)
         · rw [hb] at h1; injection h1 with h1; omega)
      | exact h.nR _ (by simp [RV.vals]) b h1
end Go.Proofs.Ytophjmphjdhjoaa

/- The laws' marks as text. -/
namespace Go.Proofs.Ytophjmphjdhjoaa
open Go.RowKit Go.Sort

/-- a digit's byte -/
def dig8 (k : Nat) : UInt8 := UInt8.ofNat (48 + k % 10)
def mtF : Nat → Nat → ByteArray → ByteArray
  | 0, _, s => s
  | f + 1, k, s => if k = 0 then s else mtF f (k / 10) (⟨#[dig8 k]⟩ ++ s)
theorem mtF_fuel : ∀ f g k s, k ≤ f → k ≤ g → mtF f k s = mtF g k s := by
  intro f
  induction f with
  | zero =>
    intro g k s h _
    obtain rfl : k = 0 := by omega
    cases g with
    | zero => rfl
    | succ g => rw [mtF, mtF, if_pos rfl]
  | succ f ih =>
    intro g k s h1 h2
    cases g with
    | zero =>
      obtain rfl : k = 0 := by omega
      rw [mtF, mtF, if_pos rfl]
    | succ g =>
      rw [mtF, mtF]
      by_cases hk : k = 0
      · rw [if_pos hk, if_pos hk]
      · rw [if_neg hk, if_neg hk, ih g (k / 10) _ (by omega) (by omega)]
def mt (k : Nat) (s : ByteArray) : ByteArray := mtF k k s
theorem mt_zero (s : ByteArray) : mt 0 s = s := rfl
theorem mt_step {k : Nat} (h : 0 < k) (s : ByteArray) : mt k s = mt (k / 10) (⟨#[dig8 k]⟩ ++ s) := by
  unfold mt
  obtain ⟨f, rfl⟩ : ∃ f, k = f + 1 := ⟨k - 1, by omega⟩
  rw [mtF, if_neg (by omega)]
  exact mtF_fuel _ _ _ _ (by omega) (by omega)
/-- the text of a mark -/
def markT (k : Nat) : ByteArray := ⟨#[109]⟩ ++ mt k ⟨#[]⟩
/-- string([]byte{x}) -/
theorem run_one_byte (w : World) (n : Nat) :
    (convert 22 9 (.slice (some ⟨w.heap.size, 0, none⟩) 1 1)).run Try.prog (w.alloc (.cells #[.int .u8 (n : Int)] 5)) = .ok (.string ⟨#[UInt8.ofNat n]⟩) (w.alloc (.cells #[.int .u8 (n : Int)] 5)) := by
  have h1 := run_convert_bytes_arg (P := Try.prog) (w.alloc (.cells #[.int .u8 (n : Int)] 5)) 22 5 Try.underlying22 Try.underlying5 w.heap.size 0 1 1 [(n : Int)] rfl (fun i hi => by
    obtain rfl : i = 0 := by omega
    simp) 9 Try.underlying9
  rw [h1]
  rfl
end Go.Proofs.Ytophjmphjdhjoaa

/- FormatInt of the reference; the length of a number's text. -/
namespace Go.Proofs.Ytophjmphjdhjoaa
open Go.RowKit Go.Sort

/-- the table that strconv reads lies where the program's start lays it -/
def itoaB (n : Int) : ByteArray := ⟨(Lib.itoa n).toArray⟩
theorem nDigits_le {u : Nat} {k : Nat} (hk : 1 ≤ k) (h : u < 10 ^ k) : Lib.nDigits u ≤ k := by
  rcases Nat.lt_or_ge u 10 with hu | hu
  · rw [Lib.nDigits_small hu]; exact hk
  · obtain ⟨j, hj⟩ : ∃ j, Lib.nDigits u = j + 1 := ⟨Lib.nDigits u - 1, by have := Lib.nDigits_pos u; omega⟩
    rw [hj]
    refine Nat.le_of_not_lt fun hlt => ?_
    have h1 : 10 ^ j ≤ u := by
      have := Lib.lt_pow_nDigits (u / 10)
      rw [Lib.nDigits_big (by omega)] at hj
      have hj' : Lib.nDigits (u / 10) = j := by omega
      clear this hlt h hk
      have hmin : ∀ (m v : Nat), Lib.nDigits v = m → 1 ≤ v → 10 ^ (m - 1) ≤ v := by
        intro m
        induction m with
        | zero => intro v hv h1; have := Lib.nDigits_pos v; omega
        | succ m ih =>
          intro v hv h1
          rcases Nat.lt_or_ge v 10 with hv10 | hv10
          · rw [Lib.nDigits_small hv10] at hv; obtain rfl : m = 0 := by omega
            simpa using h1
          · rw [Lib.nDigits_big (by omega)] at hv
            have h2 := ih (v / 10) (by omega) (by omega)
            obtain ⟨m', rfl⟩ : ∃ m', m = m' + 1 := ⟨m - 1, by have := Lib.nDigits_pos (v/10); omega⟩
            simp only [Nat.add_sub_cancel] at h2 ⊢
            rw [Nat.pow_succ]; omega
      have := hmin (j + 1) u (by rw [Lib.nDigits_big (by omega)]; omega) (by omega)
      simpa using this
    have : 10 ^ k ≤ 10 ^ j := Nat.pow_le_pow_right (by omega) (by omega)
    omega
theorem itoa_size (n : Int) (h0 : -9223372036854775808 ≤ n) (h1 : n ≤ 9223372036854775807) : (itoaB n).size ≤ 20 := by
  show (Lib.itoa n).toArray.size ≤ 20
  rw [List.size_toArray]
  unfold Lib.itoa
  split
  · simp only [List.length_cons, Lib.decDigits_length]
    have := nDigits_le (u := n.natAbs) (k := 19) (by omega) (by omega)
    omega
  · rw [Lib.decDigits_length]
    have := nDigits_le (u := n.toNat) (k := 19) (by omega) (by omega)
    omega
theorem mt_dec {n : Nat} (h : 0 < n) (s : ByteArray) : mt n s = ⟨(Lib.decDigits n).toArray⟩ ++ s := by
  induction n using Nat.strongRecOn generalizing s with
  | _ n ih =>
    rw [mt_step h]
    by_cases h10 : n < 10
    · rw [show n / 10 = 0 by omega, mt_zero, Lib.decDigits_one h10]
      show _ = (⟨#[UInt8.ofNat (48 + n)]⟩ : ByteArray) ++ s
      rw [dig8, Nat.mod_eq_of_lt h10]
    · rw [ih (n / 10) (by omega) (by omega)]
      conv => rhs; rw [Lib.decDigits, dif_neg h10]
      apply ByteArray.ext
      simp [ByteArray.data_append, dig8]
theorem itoaB_pos {n : Nat} (h : 0 < n) : itoaB n = mt n ⟨#[]⟩ := by
  rw [mt_dec h]; unfold itoaB Lib.itoa
  rw [if_neg (by omega)]
  apply ByteArray.ext
  simp [ByteArray.data_append]
theorem itoaB_neg {n : Nat} (h : 0 < n) : itoaB (-(n : Int)) = ⟨#[45]⟩ ++ mt n ⟨#[]⟩ := by
  rw [mt_dec h]; unfold itoaB Lib.itoa
  rw [if_pos (by omega)]
  apply ByteArray.ext
  simp [ByteArray.data_append]
theorem itoaB_zero : itoaB 0 = ⟨#[48]⟩ := by
  unfold itoaB Lib.itoa
  rw [if_neg (by omega), show (0 : Int).toNat = 0 from rfl, Lib.decDigits_one (by omega)]; rfl
set_option maxRecDepth 100000 in
set_option maxHeartbeats 400000 in
theorem sFormatInt_pos (k : Nat) (w : World) (hk : 0 < k) (hk2 : k ≤ 9223372036854775807) :
    Gives Try.prog 54 #[.int .i64 k] w (.string (mt k ⟨#[]⟩)) := by
  have dk : decide ((k : Int) < 0) = false := decide_eq_false (by omega)
  go_enter Try.func54, Try.ntmps54
  go_wp2
  go_loopw [4, 3] (fun kk t wr => ∃ (n : Nat) (s : ByteArray), s.size + n ≤ k ∧ kk = .int .i64 n ∧ t = .string s ∧ Hid (mt n s = mt k ⟨#[]⟩) ∧ Ext w wr) (fun kk _ _ => (intOf kk).toNat)
  case atStart => exact ⟨k, ⟨#[]⟩, Nat.le_of_eq (Nat.zero_add k), rfl, rfl, rfl, Ext.refl _⟩
  case round =>
    obtain ⟨n, s, hn, rfl, rfl, hs, he⟩ := hrel
    by_cases h0 : 0 < n
    · have hst := Lib.hid ((mt_step h0 s).symm.trans hs.out)
      have hcv : ∀ w' : World, (convert 22 9 (.slice (some ⟨w'.heap.size, 0, none⟩) 1 1)).run Try.prog (w'.alloc (.cells #[.int .u8 (48 + (n : Int) % 10)] 5)) = .ok (.string ⟨#[dig8 n]⟩) (w'.alloc (.cells #[.int .u8 (48 + (n : Int) % 10)] 5)) := by
        intro w'
        have := run_one_byte w' (48 + n % 10)
        rw [show ((48 + n % 10 : Nat) : Int) = 48 + (n : Int) % 10 by omega] at this
        exact this
      have hcvr := hcv wr
      clear hcv
      go_wp2
      go_roundw
      case rel => exact ⟨n / 10, _, by rw [ByteArray.size_append]; show 1 + s.size + n / 10 ≤ k; omega, by go_num, rfl, hst, Ext_alloc _ he⟩
      case measure => simp [intOf]; omega
    · obtain rfl : n = 0 := by omega
      have hs2 := Lib.hid ((mt_zero s).symm.trans hs.out)
      clear hs
      go_wp2
      go_ret
      exact ⟨by rw [hs2.out]; rfl, he⟩
set_option maxRecDepth 100000 in
set_option maxHeartbeats 400000 in
theorem sFormatInt_neg (k : Nat) (w : World) (hk : 0 < k) (hk2 : k ≤ 9223372036854775808) :
    Gives Try.prog 54 #[.int .i64 (-(k : Int))] w (.string (⟨#[45]⟩ ++ mt k ⟨#[]⟩)) := by
  have dk : decide (-(k : Int) < 0) = true := decide_eq_true (by omega)
  go_enter Try.func54, Try.ntmps54
  go_wp2
  go_loopw [4, 3] (fun kk t wr => ∃ (n : Nat) (s : ByteArray), 2 * s.size + n ≤ k + 1 ∧ (0 < n → 2 * s.size + n ≤ k) ∧ kk = .int .i64 (-(n : Int)) ∧ t = .string s ∧ Hid (mt n s = mt k ⟨#[]⟩) ∧ Ext w wr) (fun kk _ _ => (-(intOf kk)).toNat)
  case atStart => exact ⟨k, ⟨#[]⟩, by show 2 * 0 + k ≤ k + 1; omega, fun _ => Nat.le_of_eq (Nat.zero_add k), rfl, rfl, rfl, Ext.refl _⟩
  case round =>
    obtain ⟨n, s, hn, hn2, rfl, rfl, hs, he⟩ := hrel
    by_cases h0 : 0 < n
    · have hn3 := hn2 h0
      have hst := Lib.hid ((mt_step h0 s).symm.trans hs.out)
      have hcv : ∀ w' : World, (convert 22 9 (.slice (some ⟨w'.heap.size, 0, none⟩) 1 1)).run Try.prog (w'.alloc (.cells #[.int .u8 (48 + (n : Int) % 10)] 5)) = .ok (.string ⟨#[dig8 n]⟩) (w'.alloc (.cells #[.int .u8 (48 + (n : Int) % 10)] 5)) := by
        intro w'
        have := run_one_byte w' (48 + n % 10)
        rw [show ((48 + n % 10 : Nat) : Int) = 48 + (n : Int) % 10 by omega] at this
        exact this
      have hcvr := hcv wr
      have hmod : (-(n : Int)).tmod 10 = -((n : Int) % 10) := by rw [Int.neg_tmod, Int.tmod_eq_emod_of_nonneg (by omega)]
      have hdiv : (-(n : Int)).tdiv 10 = -((n : Int) / 10) := by rw [Int.neg_tdiv, Int.tdiv_eq_ediv_of_nonneg (by omega)]
      clear hcv
      by_cases hm : (n : Int) % 10 = 0
      · rw [hm, Int.add_zero] at hcvr
        go_wp2
        go_roundw
        case rel => exact ⟨n / 10, _, by rw [ByteArray.size_append]; show 2 * (1 + s.size) + n / 10 ≤ k + 1; omega, fun h => by rw [ByteArray.size_append]; show 2 * (1 + s.size) + n / 10 ≤ k; omega, by go_num, rfl, hst, Ext_alloc _ he⟩
        case measure => simp [intOf]; omega
      · go_wp2
        go_roundw
        case rel => exact ⟨n / 10, _, by rw [ByteArray.size_append]; show 2 * (1 + s.size) + n / 10 ≤ k + 1; omega, fun h => by rw [ByteArray.size_append]; show 2 * (1 + s.size) + n / 10 ≤ k; omega, by go_num, rfl, hst, Ext_alloc _ he⟩
        case measure => simp [intOf]; omega
    · obtain rfl : n = 0 := by omega
      have hsz : s.size ≤ 4611686018427387904 := by omega
      have z0 : (-((0 : Nat) : Int) != 0) = false := by simp
      have hs2 := Lib.hid ((mt_zero s).symm.trans hs.out)
      clear hs
      go_wp2
      all_goals go_ret
      all_goals exact ⟨by rw [hs2.out]; rfl, he⟩
theorem sFormatInt_c (n : Int) (w : World) (h0 : -9223372036854775808 ≤ n) (h1 : n ≤ 9223372036854775807) :
    Gives Try.prog 54 #[.int .i64 n] w (.string (itoaB n)) := by
  rcases Int.lt_trichotomy n 0 with h | rfl | h
  · obtain ⟨k, rfl⟩ : ∃ k : Nat, n = -(k : Int) := ⟨n.natAbs, by omega⟩
    rw [itoaB_neg (by omega)]
    exact sFormatInt_neg k w (by omega) (by omega)
  · rw [itoaB_zero]
    go_enter Try.func54, Try.ntmps54
    go_wp2
    go_ret
    exact ⟨rfl, Ext.refl _⟩
  · obtain ⟨k, rfl⟩ : ∃ k : Nat, n = (k : Int) := ⟨n.toNat, by omega⟩
    rw [itoaB_pos (by omega)]
    exact sFormatInt_pos k w (by omega) (by omega)
end Go.Proofs.Ytophjmphjdhjoaa

/- Valid descriptions, as plain functions of the rules. -/
namespace Go.Proofs.Ytophjmphjdhjoaa

/-- f holds at every number below n -/
def allN (n : Nat) (f : Nat → Bool) : Bool := (List.range n).all f
theorem allN_no {n k : Nat} {f : Nat → Bool} (hk : k < n) (h : f k = false) : allN n f = false := by
  unfold allN
  rw [Bool.eq_false_iff]
  intro hall
  have := List.all_eq_true.1 hall k (by simpa using hk)
  rw [h] at this; cases this
theorem allN_yes {n : Nat} {f : Nat → Bool} (h : ∀ j, j < n → f j = true) : allN n f = true := List.all_eq_true.2 fun j hj => h j (by simpa using hj)
theorem upTo {k : Nat} {f : Nat → Bool} (h : ∀ j, j < k → f j = true) (hk : f k = true) : ∀ j, j < k + 1 → f j = true := by
  intro j hj
  rcases (by omega : j < k ∨ j = k) with hj | rfl
  · exact h j hj
  · exact hk
/-- is the text among the first k of the list -/
def hasNm (l : List ByteArray) (s : ByteArray) : Bool := l.any fun x => x.toList == s.toList
theorem hasNm_at {l : List ByteArray} {s : ByteArray} {k : Nat} (hk : k < l.length) (h : (l[k].toList == s.toList) = true) : hasNm l s = true := List.any_eq_true.2 ⟨l[k], List.getElem_mem hk, h⟩
theorem hasNm_none {l : List ByteArray} {s : ByteArray} (h : ∀ k (hk : k < l.length), (l[k].toList == s.toList) = false) : hasNm l s = false := by
  unfold hasNm
  rw [List.any_eq_false]
  intro x hx
  obtain ⟨k, hk, rfl⟩ := List.getElem_of_mem hx
  rw [h k hk]; simp
/-- the greatest number of an integer rule, else -1 -/
def limR (r : DRule) : Int := if r.kind = 1 ∧ 1 ≤ r.size ∧ r.size ≤ 4 then 256 ^ r.size.toNat - 1 else -1
def limD (ds : List DRule) (i : Int) : Int := if 0 ≤ i then (match ds[i.toNat]? with | some r => limR r | none => -1) else -1
theorem limR_cases (r : DRule) : limR r = -1 ∨ limR r = 255 ∨ limR r = 65535 ∨ limR r = 16777215 ∨ limR r = 4294967295 := by
  unfold limR
  split
  · rename_i h
    rcases (by omega : r.size = 1 ∨ r.size = 2 ∨ r.size = 3 ∨ r.size = 4) with e | e | e | e <;> rw [e] <;> simp
  · exact .inl rfl
theorem limD_cases (ds : List DRule) (i : Int) : limD ds i = -1 ∨ limD ds i = 255 ∨ limD ds i = 65535 ∨ limD ds i = 16777215 ∨ limD ds i = 4294967295 := by
  unfold limD
  split
  · split
    · exact limR_cases _
    · exact .inl rfl
  · exact .inl rfl
/-- the fields that a rule may have -/
def plainB (r : DRule) (size bytes names tags : Bool) (kids : Int) : Bool :=
  (size || r.size == 0) && (bytes || r.bytes.length == 0) && (names || r.names.length == 0) && (tags || r.tags.length == 0) && (decide (kids < 0) || decide ((r.kids.length : Int) = kids))
def between (n lo hi : Int) : Bool := decide (lo ≤ n) && decide (n ≤ hi)
def nameOk (l : List ByteArray) (i : Nat) : Bool := match l[i]? with | some s => isName s && !hasNm (l.take i) s | none => true
def seqOk (r : DRule) : Bool := plainB r false false true false (-1) && r.kids.length == r.names.length && between r.kids.length 1 8 && allN r.names.length (nameOk r.names)
def tagOk (lim : Int) (l : List Int) (i : Nat) : Bool := match l[i]? with | some t => between t 0 lim && (i == 0 || decide (l.getD (i - 1) 0 < t)) | none => true
def choOk (ds : List DRule) (r : DRule) : Bool := plainB r false false false true (r.tags.length + 1) && between r.tags.length 1 8 && allN r.tags.length (tagOk (limD ds (r.kids.getD 0 0)) r.tags)
def kindOk (ds : List DRule) (r : DRule) : Bool :=
  if r.kind = 1 then plainB r true false false false 0 && between r.size 1 4 && (!r.little || decide (1 < r.size))
  else if r.kind = 2 then plainB r false true false false 0 && between r.bytes.length 1 16
  else if r.kind = 3 then plainB r true false false false 0 && between r.size 1 64
  else if r.kind = 4 then plainB r false false false false 1 && decide (0 < limD ds (r.kids.getD 0 0))
  else if r.kind = 5 then plainB r false false false false 2 && decide (0 < limD ds (r.kids.getD 0 0))
  else if r.kind = 6 then seqOk r
  else if r.kind = 7 then choOk ds r
  else if r.kind = 8 then plainB r false false false false 1
  else if r.kind = 9 then plainB r false false false false 1
  else if r.kind = 10 then plainB r false true false false 0 && r.bytes.length == 1 && !(r.bytes.getD 0 0 == 92)
  else false
def freshNm (ds : List DRule) (r : DRule) (j : Nat) : Bool := match ds[j]? with | some q => !(q.nm.toList == r.nm.toList) | none => true
def kidOk (l : List Int) (i : Nat) (j : Nat) : Bool := match l[j]? with | some k => between k 0 ((i : Int) - 1) | none => true
/-- rule number i is valid -/
def ruleOk (ds : List DRule) (i : Nat) : Bool := match ds[i]? with
  | some r => isName r.nm && (!r.little || r.kind == 1) && allN i (freshNm ds r) && allN r.kids.length (kidOk r.kids i) && kindOk ds r
  | none => false
def ruleOkI (ds : List DRule) (i : Int) : Bool := decide (0 ≤ i) && ruleOk ds i.toNat
def descOk (ds : List DRule) : Bool := between ds.length 1 24 && allN ds.length (ruleOk ds)
def regOk (gs : List (List DRule)) : Bool := decide (gs.length ≤ 8) && allN gs.length (fun i => match gs[i]? with | some d => descOk d | none => true)
end Go.Proofs.Ytophjmphjdhjoaa

/- Drawn rules are valid: the plain part. -/
namespace Go.Proofs.Ytophjmphjdhjoaa
open Go.RowKit Go.Sort

def numOf (s : ByteArray) : Nat := s.toList.foldl (fun acc b => if 48 ≤ b.toNat ∧ b.toNat ≤ 57 then acc * 10 + (b.toNat - 48) else acc) 0
def heads : List ByteArray := [⟨#[97]⟩, ⟨#[105, 116, 101, 109]⟩, ⟨#[98]⟩, ⟨#[104, 101, 97, 100]⟩, ⟨#[120]⟩]
theorem made_num : ∀ s ∈ heads, ∀ n, n < 32 → numOf (s ++ itoaB (n : Nat)) = n ∧ isName (s ++ itoaB (n : Nat)) = true := by decide +kernel
theorem ne_of_num {a b : ByteArray} (h : numOf a ≠ numOf b) : (a.toList == b.toList) = false := by
  rw [beq_eq_false_iff_ne]
  intro he
  apply h
  unfold numOf
  rw [he]
/-- a rule that is drawn behind the rules ds -/
structure MadeR (ds : List DRule) (r : DRule) : Prop where
  nm : ∃ s ∈ heads, r.nm = s ++ itoaB (ds.length : Int)
  ok : kindOk ds r = true
  lit : (!r.little || r.kind == 1) = true
  kids : ∀ x ∈ r.kids, 0 ≤ x ∧ x < (ds.length : Int)
def MadeD (ds : List DRule) : Prop := ∀ i (h : i < ds.length), MadeR (ds.take i) ds[i]
theorem MadeD.nil : MadeD [] := fun i h => by simp at h
theorem MadeD.snoc {ds : List DRule} {r : DRule} (h : MadeD ds) (hr : MadeR ds r) : MadeD (ds ++ [r]) := by
  intro i hi
  rw [List.length_append, List.length_singleton] at hi
  rcases (by omega : i < ds.length ∨ i = ds.length) with h1 | rfl
  · rw [List.getElem_append_left h1, List.take_append_of_le_length (by omega)]; exact h i h1
  · rw [List.getElem_append_right (by omega)]; simpa using hr
theorem limD_up {ds : List DRule} {i : Nat} {x : Int} (h : limD (ds.take i) x ≠ -1) : limD ds x = limD (ds.take i) x := by
  unfold limD at *
  split at h
  · rename_i h0
    rw [if_pos h0, if_pos h0]
    split at h
    · rename_i r hr
      rw [List.getElem?_take] at hr
      split at hr
      · rw [hr]
      · cases hr
    · exact absurd rfl h
  · exact absurd rfl h
theorem between_iff {n lo hi : Int} : between n lo hi = true ↔ lo ≤ n ∧ n ≤ hi := by simp [between]
theorem choOk_lim {ds : List DRule} {r : DRule} (h : choOk ds r = true) : limD ds (r.kids.getD 0 0) ≠ -1 := by
  intro hl
  unfold choOk at h
  simp only [Bool.and_eq_true, between_iff] at h
  obtain ⟨⟨_, h1, _⟩, h2⟩ := h
  have h3 := List.all_eq_true.1 h2 0 (by simp; omega)
  rw [hl] at h3
  unfold tagOk at h3
  rw [List.getElem?_eq_getElem (by omega)] at h3
  simp only [Bool.and_eq_true, between_iff] at h3
  omega
theorem kindOk_up {ds : List DRule} {i : Nat} {r : DRule} (h : kindOk (ds.take i) r = true) : kindOk ds r = true := by
  unfold kindOk at *
  by_cases h1 : r.kind = 1
  · simpa only [h1, if_true] using h
  rw [if_neg h1] at h ⊢
  by_cases h2 : r.kind = 2
  · simpa only [h2, if_true] using h
  rw [if_neg h2] at h ⊢
  by_cases h3 : r.kind = 3
  · simpa only [h3, if_true] using h
  rw [if_neg h3] at h ⊢
  by_cases h4 : r.kind = 4
  · rw [if_pos h4] at h ⊢
    simp only [Bool.and_eq_true, decide_eq_true_eq] at h ⊢
    exact ⟨h.1, by rw [limD_up (x := r.kids.getD 0 0) (i := i) (by omega)]; exact h.2⟩
  rw [if_neg h4] at h ⊢
  by_cases h5 : r.kind = 5
  · rw [if_pos h5] at h ⊢
    simp only [Bool.and_eq_true, decide_eq_true_eq] at h ⊢
    exact ⟨h.1, by rw [limD_up (x := r.kids.getD 0 0) (i := i) (by omega)]; exact h.2⟩
  rw [if_neg h5] at h ⊢
  by_cases h6 : r.kind = 6
  · rw [if_pos h6] at h ⊢; exact h
  rw [if_neg h6] at h ⊢
  by_cases h7 : r.kind = 7
  · rw [if_pos h7] at h ⊢
    have hl := limD_up (choOk_lim h)
    unfold choOk at *
    rw [hl]; exact h
  rw [if_neg h7] at h ⊢
  exact h
theorem MadeD.num {ds : List DRule} (h : MadeD ds) (hn : ds.length ≤ 32) (i : Nat) (hi : i < ds.length) : numOf ds[i].nm = i ∧ isName ds[i].nm = true := by
  obtain ⟨s, hs, he⟩ := (h i hi).nm
  rw [List.length_take, Nat.min_eq_left (by omega)] at he
  rw [he]
  exact made_num s hs i (by omega)
theorem MadeD.rule {ds : List DRule} (h : MadeD ds) (hn : ds.length ≤ 32) (i : Nat) (hi : i < ds.length) : ruleOk ds i = true := by
  have hm := h i hi
  unfold ruleOk
  rw [List.getElem?_eq_getElem hi]
  simp only [Bool.and_eq_true]
  refine ⟨⟨⟨⟨(h.num hn i hi).2, hm.lit⟩, allN_yes fun j hj => ?_⟩, allN_yes fun j hj => ?_⟩, kindOk_up hm.ok⟩
  · unfold freshNm
    rw [List.getElem?_eq_getElem (by omega)]
    have h1 := (h.num hn i hi).1
    have h2 := (h.num hn j (by omega)).1
    dsimp only
    rw [ne_of_num (a := ds[j].nm) (b := ds[i].nm) (by omega)]; rfl
  · unfold kidOk
    rw [List.getElem?_eq_getElem hj]
    have := hm.kids _ (List.getElem_mem hj)
    rw [List.length_take, Nat.min_eq_left (by omega)] at this
    rw [between_iff]; omega
theorem MadeD.valid {ds : List DRule} (h : MadeD ds) (h0 : 0 < ds.length) (hn : ds.length ≤ 24) : descOk ds = true := by
  unfold descOk
  rw [Bool.and_eq_true, between_iff]
  exact ⟨by omega, allN_yes fun j hj => h.rule (by omega) j hj⟩
theorem MadeD.lim {ds : List DRule} (h : MadeD ds) {x : Nat} (hx : x < ds.length) (hk : ds[x].kind = 1) : 255 ≤ limD ds (x : Int) := by
  have hm := (h x hx).ok
  unfold kindOk at hm
  rw [if_pos hk] at hm
  simp only [Bool.and_eq_true, between_iff] at hm
  obtain ⟨⟨_, h1, h2⟩, _⟩ := hm
  unfold limD
  rw [if_pos (by omega)]
  simp only [Int.toNat_natCast, List.getElem?_eq_getElem hx]
  rcases limR_cases ds[x] with e | e | e | e | e
  · exfalso
    unfold limR at e
    rw [if_pos ⟨hk, h1, h2⟩] at e
    rcases (by omega : ds[x].size = 1 ∨ ds[x].size = 2 ∨ ds[x].size = 3 ∨ ds[x].size = 4) with e' | e' | e' | e' <;> rw [e'] at e <;> simp at e
  all_goals rw [e]; omega
section
variable {ds : List DRule} {nm : ByteArray} (hnm : ∃ s ∈ heads, nm = s ++ itoaB (ds.length : Int))
include hnm
theorem made_int {y : Nat} {flag : Bool} (hy : y < 3) (hf : flag = true → 1 ≤ y) : MadeR ds ⟨nm, 1, 1 + (y : Int), flag, [], [], [], []⟩ :=
  ⟨hnm, by
    simp only [kindOk, if_true, plainB, between, Bool.and_eq_true, decide_eq_true_eq, Bool.or_eq_true, Bool.not_eq_true']
    cases flag
    · simp; omega
    · have := hf rfl; simp; omega, by simp, by simp⟩
theorem made_const {b : List UInt8} (h0 : 1 ≤ b.length) (h1 : b.length ≤ 16) : MadeR ds ⟨nm, 2, 0, false, b, [], [], []⟩ :=
  ⟨hnm, by simp [kindOk, plainB, between]; omega, by simp, by simp⟩
theorem made_fixed {y : Nat} (hy : y < 4) : MadeR ds ⟨nm, 3, 1 + (y : Int), false, [], [], [], []⟩ :=
  ⟨hnm, by simp [kindOk, plainB, between]; omega, by simp, by simp⟩
theorem made_sized (hM : MadeD ds) {x : Nat} (hx : x < ds.length) (hk : ds[x].kind = 1) : MadeR ds ⟨nm, 4, 0, false, [], [], [], [(x : Int)]⟩ :=
  ⟨hnm, by have := hM.lim hx hk; simp [kindOk, plainB]; omega, by simp, by simp; omega⟩
theorem made_array (hM : MadeD ds) {x y : Nat} (hx : x < ds.length) (hk : ds[x].kind = 1) (hy : y < ds.length) : MadeR ds ⟨nm, 5, 0, false, [], [], [], [(x : Int), (y : Int)]⟩ :=
  ⟨hnm, by have := hM.lim hx hk; simp [kindOk, plainB]; omega, by simp, by simp; omega⟩
theorem made_opt {y : Nat} (hy : y < ds.length) : MadeR ds ⟨nm, 8, 0, false, [], [], [], [(y : Int)]⟩ :=
  ⟨hnm, by simp [kindOk, plainB], by simp, by simp; omega⟩
theorem made_checked {y : Nat} (hy : y < ds.length) : MadeR ds ⟨nm, 9, 0, false, [], [], [], [(y : Int)]⟩ :=
  ⟨hnm, by simp [kindOk, plainB], by simp, by simp; omega⟩
theorem made_term {b : UInt8} (hb : b ≠ 92) : MadeR ds ⟨nm, 10, 0, false, [b], [], [], []⟩ :=
  ⟨hnm, by simp [kindOk, plainB, hb], by simp, by simp⟩
end
/-- the part names of a drawn sequence -/
def seqHeads : List ByteArray := [⟨#[112]⟩, ⟨#[113]⟩, ⟨#[114]⟩]
theorem part_num : ∀ s ∈ seqHeads, ∀ n, n < 32 → numOf (s ++ itoaB (n : Nat)) = n ∧ isName (s ++ itoaB (n : Nat)) = true := by decide +kernel
structure SeqInv (i : Nat) (l : List ByteArray) : Prop where
  ok : allN l.length (nameOk l) = true
  of : ∀ t ∈ l, ∃ s ∈ seqHeads, ∃ j, i < j ∧ j < 32 ∧ t = s ++ itoaB ((j : Nat) : Int)
theorem SeqInv.nil (i : Nat) : SeqInv i [] := ⟨rfl, by simp⟩
theorem SeqInv.snoc {i : Nat} {l : List ByteArray} (h : SeqInv i l) {s : ByteArray} (hs : s ∈ seqHeads) (h0 : 0 < i) (hi : i < 32) : SeqInv (i - 1) (l ++ [s ++ itoaB (i : Int)]) := by
  have hnum : ∀ t ∈ l, i < numOf t ∧ isName t = true := fun t ht => by
    obtain ⟨s', hs', j, h1, h2, rfl⟩ := h.of t ht
    obtain ⟨h3, h4⟩ := part_num s' hs' j h2
    exact ⟨by omega, h4⟩
  have hn := part_num s hs i hi
  refine ⟨?_, fun t ht => ?_⟩
  · refine allN_yes fun j hj => ?_
    rw [List.length_append, List.length_singleton] at hj
    unfold nameOk
    rcases (by omega : j < l.length ∨ j = l.length) with h1 | rfl
    · have h2 := List.all_eq_true.1 h.ok j (by simpa using h1)
      unfold nameOk at h2
      rw [List.getElem?_eq_getElem h1] at h2
      rw [List.getElem?_append_left h1, List.getElem?_eq_getElem h1, List.take_append_of_le_length (by omega)]
      exact h2
    · rw [List.getElem?_append_right (by omega)]
      simp only [Nat.sub_self, List.getElem?_cons_zero, Bool.and_eq_true, Bool.not_eq_true']
      refine ⟨hn.2, hasNm_none fun k hk => ?_⟩
      have hk' : k < l.length := by simp at hk; omega
      have : ((l ++ [s ++ itoaB (i : Int)]).take l.length)[k] = l[k] := by simp [hk']
      rw [this]
      have := (hnum _ (List.getElem_mem hk')).1
      exact ne_of_num (by omega)
  · rcases List.mem_append.1 ht with h1 | h1
    · obtain ⟨s', hs', j, h2, h3, h4⟩ := h.of t h1
      exact ⟨s', hs', j, by omega, h3, h4⟩
    · rw [List.mem_singleton.1 h1]
      exact ⟨s, hs, i, by omega, hi, rfl⟩
theorem made_seq {ds : List DRule} {r : DRule} (hnm : ∃ s ∈ heads, r.nm = s ++ itoaB (ds.length : Int)) (hk : r.kind = 6) (h1 : r.size = 0) (h2 : r.bytes = []) (h3 : r.tags = []) (h4 : r.little = false) (hl : r.kids.length = r.names.length) (h0 : 1 ≤ r.names.length) (h8 : r.names.length ≤ 8) {i : Nat} (hS : SeqInv i r.names) (hkid : ∀ x ∈ r.kids, 0 ≤ x ∧ x < (ds.length : Int)) : MadeR ds r := by
  refine ⟨hnm, ?_, by simp [h4], hkid⟩
  unfold kindOk
  rw [if_neg (by omega), if_neg (by omega), if_neg (by omega), if_neg (by omega), if_neg (by omega), if_pos hk]
  unfold seqOk plainB
  simp only [h1, h2, h3, Bool.and_eq_true, between_iff, hS.ok]
  simp; omega
/-- the tags of a drawn choice -/
structure TagInv (l : List Int) : Prop where
  at' : ∀ j (h : j < l.length), 4 * (j : Int) ≤ l[j] ∧ l[j] < 4 * (j : Int) + 4
theorem TagInv.nil : TagInv [] := ⟨by simp⟩
theorem TagInv.snoc {l : List Int} (h : TagInv l) {z : Nat} (hz : z < 4) : TagInv (l ++ [4 * (l.length : Int) + (z : Int)]) := by
  refine ⟨fun j hj => ?_⟩
  rw [List.length_append, List.length_singleton] at hj
  rcases (by omega : j < l.length ∨ j = l.length) with h1 | rfl
  · rw [List.getElem_append_left h1]; exact h.at' j h1
  · rw [List.getElem_append_right (by omega)]; simp; omega
theorem made_cho {ds : List DRule} {r : DRule} (hM : MadeD ds) (hnm : ∃ s ∈ heads, r.nm = s ++ itoaB (ds.length : Int)) (hk : r.kind = 7) (h1 : r.size = 0) (h2 : r.bytes = []) (h3 : r.names = []) (h4 : r.little = false) (hl : r.kids.length = r.tags.length + 1) (h0 : 1 ≤ r.tags.length) (h8 : r.tags.length ≤ 8) (hT : TagInv r.tags) {x : Nat} {t : List Int} (hx : x < ds.length) (hx1 : ds[x].kind = 1) (hkx : r.kids = (x : Int) :: t) (hkid : ∀ x ∈ r.kids, 0 ≤ x ∧ x < (ds.length : Int)) : MadeR ds r := by
  have hlim := hM.lim hx hx1
  refine ⟨hnm, ?_, by simp [h4], hkid⟩
  unfold kindOk
  rw [if_neg (by omega), if_neg (by omega), if_neg (by omega), if_neg (by omega), if_neg (by omega), if_neg (by omega), if_pos hk]
  unfold choOk plainB
  have hall : allN r.tags.length (tagOk (limD ds (r.kids.getD 0 0)) r.tags) = true := by
    refine allN_yes fun j hj => ?_
    unfold tagOk
    rw [List.getElem?_eq_getElem hj]
    have h5 := hT.at' j hj
    simp only [Bool.and_eq_true, between_iff, Bool.or_eq_true, beq_iff_eq, decide_eq_true_eq]
    refine ⟨⟨by omega, by rw [hkx]; simp only [List.getD_cons_zero]; omega⟩, ?_⟩
    rcases (by omega : j = 0 ∨ 0 < j) with h6 | h6
    · exact .inl h6
    · right
      have h7 := hT.at' (j - 1) (by omega)
      rw [List.getD_eq_getElem?_getD, List.getElem?_eq_getElem (by omega), Option.getD_some]
      omega
  rw [hall]
  simp only [h1, h2, h3, Bool.and_eq_true, between_iff]
  simp; omega
end Go.Proofs.Ytophjmphjdhjoaa

/- The laws' copies of descriptions and registries. -/
namespace Go.Proofs.Ytophjmphjdhjoaa
open Go.RowKit Go.Sort

theorem E_str : Elem Try.prog 29 9 1 16 (.string ⟨#[]⟩) := ⟨Try.underlying29, by kernel_rfl, rfl, by omega⟩
theorem rulesOf_append (a b : List RV) : rulesOf (a ++ b) = rulesOf a ++ rulesOf b := by simp [rulesOf]
theorem own_grown {e : TypeId} {size : Nat} {w0 w w' : World} {v : Value} {n : Nat} {xs : List Value} (h : Own e size w0 w v n xs) {g : Nat} (hg : w.grownBy w' (some g)) (hne : ∀ k, v.ownBlock = some k → k ≠ g) : Own e size w0 w' v n xs :=
  h.keep hg (fun k hk he => by injection he with he; exact hne k hk he.symm)
end Go.Proofs.Ytophjmphjdhjoaa

/- The program's and the reference's copies of rules. -/
namespace Go.Proofs.Ytophjmphjdhjoaa
open Go.RowKit Go.Sort

theorem boxes2' (w : World) (c0 c1 : Array Value) (T0 T1 : TypeId) :
    ∃ W, Hid (W = ((w.alloc (.cells c0 T0)).alloc (.cells c1 T1))) ∧ Box W w.heap.size c0 T0 ∧ Box W (w.heap.size + 1) c1 T1 ∧ Ext w W ∧ W.heap.size = w.heap.size + 2 := by
  have s1 : (w.alloc (.cells c0 T0)).heap.size = w.heap.size + 1 := by simp
  have h1 := Box.new (w.alloc (.cells c0 T0)) c1 T1
  rw [s1] at h1
  exact ⟨_, rfl, (Box.new w c0 T0).ext (Ext_alloc _ (Ext.refl _)), h1, Ext_alloc _ (Ext_alloc _ (Ext.refl w)), by simp⟩
theorem src0 {α : Type} {f : α → Value} {w w' : World} {A : Option Addr} {l : List α} {c : Nat} (h : Rd0 f w A l c) (e : Ext w w') (hp : 0 < l.length) : ∃ ad, A = some ad ∧ ∀ j u, (l.map f)[j]? = some u → w'.cell? (ad.add j) = some u := by
  obtain ⟨b, off, hA, _, hc⟩ := h.2.2 hp
  refine ⟨_, hA, fun j u hu => ?_⟩
  have := part_cells (fun i hi => hc w' e i hi) 0 l.length j u
  simp only [List.drop_zero, List.take_length, Nat.add_zero] at this
  exact this hu
set_option maxRecDepth 100000 in
set_option maxHeartbeats 4000000 in
theorem sCopyR_c (r : DRule) (Ab : Option Addr) (cb : Nat) (An : Option Addr) (cn : Nat) (At : Option Addr) (ct : Nat) (Ak : Option Addr) (ck : Nat) (w : World) (h : RdS w r Ab cb An cn At ct Ak ck) (hz : szRl r ≤ 1048576) :
    Calls Try.prog 46 #[vrule r (.slice Ab r.bytes.length cb) (.slice An r.names.length cn) (.slice At r.tags.length ct) (.slice Ak r.kids.length ck)] w fun e w' => ∃ vb vn vt vk, e = .returned (vrule r vb vn vt vk) ∧ RuleOwn w w' ⟨r, vb, vn, vt, vk⟩ ∧ Far [vb, vn, vt, vk] ∧ Ext w w' := by
  obtain ⟨hb, hn, ht, hk⟩ := h
  obtain ⟨⟨s1, s2, s3, s4⟩, z1, z2, z3, z4⟩ := szRl_short hz
  clear hz
  obtain ⟨nm, kind, size, little, bytes, names, tags, kids⟩ := r
  dsimp only at *
  obtain ⟨W0, HW0, HA, HR, HO, e0, hsA⟩ := boxes3' w #[.string nm, .int .i64 kind, .int .i64 size, .bool little, .slice Ab bytes.length cb, .slice An names.length cn, .slice At tags.length ct, .slice Ak kids.length ck] #[.string ⟨#[]⟩, .int .i64 0, .int .i64 0, .bool false, .slice none 0 0, .slice none 0 0, .slice none 0 0, .slice none 0 0] #[.string nm, .int .i64 kind, .int .i64 size, .bool little, .slice Ab bytes.length cb, .slice An names.length cn, .slice At tags.length ct, .slice Ak kids.length ck] 35 35 35
  have HSA := Lib.hid hsA; clear hsA
  have s01 := HO.lt
  unfold vrule
  dsimp only
  go_enter Try.func46, Try.ntmps46
  have x1 := Ext_alloc (.cells #[] 5) (Ext.refl W0)
  have OE1 := OwnL.empty (f := vu8) (e := 5) (Ext.refl W0)
  rw [show W0.heap.size = w.heap.size + 1 + 1 + 1 by have := HSA.out; omega] at OE1
  have HOE1 := Lib.hid OE1; clear OE1
  go_wp2_with (first
    | (at_builtin; rw [← HW0.out]; have hb1 : (([] : List UInt8).length + bytes.length) * 1 ≤ 140737488355328 := (by simp only [List.length_nil]; omega); have hc1 : 0 < bytes.length → ∃ ad, Ab = some ad ∧ ∀ j u, (bytes.map vu8)[j]? = some u → (W0.alloc (.cells #[] 5)).cell? (ad.add j) = some u := fun hp => src0 hb (e0.trans x1) hp; refine wpList_appL rfl (.tmp 5) (.tmp 7) _ rfl E_u8 (by omega) W0 _ vu8 (fun _ => rfl) _ rfl Ab bytes.length cb rfl [] bytes HOE1.out x1 rfl hc1 hb1 ?_; intro v1 w1 ho1 he1 _ _; rw [List.nil_append] at ho1; obtain ⟨A1, c1, hv1, _⟩ := OwnL.rd ho1 s1; subst hv1; have p1 := (HO.ext he1).cell; have q1 := (HO.ext he1).free; have G1 : Hid (∀ g, (Value.slice A1 bytes.length c1).ownBlock = some g → W0.heap.size ≤ g ∧ g < w1.heap.size) := fun g hg => World.ownsRow.lt ho1 g hg; have F1 : Hid ((Value.slice A1 bytes.length c1).ownBlock ≠ some (w.heap.size + 1 + 1)) := OwnL.far ho1 (.inl (by have := HO.lt; omega)); have y1 : Hid (w1.heap.size ≤ (w1.setCell ⟨(w.heap.size + 1 + 1), 4, none⟩ (.slice A1 bytes.length c1)).heap.size) := (by show _ ≤ _; simp); have t1 := Lib.hid he1.size; have O1 := Lib.hid (OwnL.other ho1 ⟨(w.heap.size + 1 + 1), 4, none⟩ (.slice A1 bytes.length c1) F1.out); replace HA := (HA.ext he1).other (g' := (w.heap.size + 1 + 1)) (by omega) 4 (.slice A1 bytes.length c1); replace HR := (HR.ext he1).other (g' := (w.heap.size + 1 + 1)) (by omega) 4 (.slice A1 bytes.length c1); replace HO := (HO.ext he1).set 4 (.slice A1 bytes.length c1); have e1 := (e0.trans he1).setCell (p := ⟨(w.heap.size + 1 + 1), 4, none⟩) (by show w.heap.size ≤ (w.heap.size + 1 + 1); omega) (.slice A1 bytes.length c1); have x2 := Ext_alloc (.cells #[] 9) (Ext.refl (w1.setCell ⟨(w.heap.size + 1 + 1), 4, none⟩ (.slice A1 bytes.length c1))); have a2 := (HA.ext x2).cell; clear e0 he1 ho1 x1 hc1 hb1)
    | (at_builtin; have hb2 : (([] : List ByteArray).length + names.length) * 16 ≤ 140737488355328 := (by simp only [List.length_nil]; omega); have hc2 : 0 < names.length → ∃ ad, An = some ad ∧ ∀ j u, (names.map vstr)[j]? = some u → ((w1.setCell ⟨(w.heap.size + 1 + 1), 4, none⟩ (.slice A1 bytes.length c1)).alloc (.cells #[] 9)).cell? (ad.add j) = some u := fun hp => src0 hn (e1.trans x2) hp; have OE2 := OwnL.empty (f := vstr) (e := 9) (Ext.refl (w1.setCell ⟨(w.heap.size + 1 + 1), 4, none⟩ (.slice A1 bytes.length c1))); rw [show ((w1.setCell ⟨(w.heap.size + 1 + 1), 4, none⟩ (.slice A1 bytes.length c1))).heap.size = w1.heap.size by simp] at OE2; have HOE2 := Lib.hid OE2; clear OE2; refine wpList_appL rfl (.tmp 10) (.tmp 12) _ rfl E_str (by omega) (w1.setCell ⟨(w.heap.size + 1 + 1), 4, none⟩ (.slice A1 bytes.length c1)) _ vstr (fun _ => rfl) _ rfl An names.length cn rfl [] names HOE2.out x2 rfl hc2 hb2 ?_; intro v2 w2 ho2 he2 _ _; rw [List.nil_append] at ho2; obtain ⟨A2, c2, hv2, _⟩ := OwnL.rd ho2 s2; subst hv2; have p2 := (HO.ext he2).cell; have q2 := (HO.ext he2).free; have G2 : Hid (∀ g, (Value.slice A2 names.length c2).ownBlock = some g → (w1.setCell ⟨(w.heap.size + 1 + 1), 4, none⟩ (.slice A1 bytes.length c1)).heap.size ≤ g ∧ g < w2.heap.size) := fun g hg => World.ownsRow.lt ho2 g hg; have F2 : Hid ((Value.slice A2 names.length c2).ownBlock ≠ some (w.heap.size + 1 + 1)) := OwnL.far ho2 (.inl (by have := HO.lt; omega)); have y2 : Hid (w2.heap.size ≤ (w2.setCell ⟨(w.heap.size + 1 + 1), 5, none⟩ (.slice A2 names.length c2)).heap.size) := (by show _ ≤ _; simp); have t2 := Lib.hid he2.size; replace O1 := Lib.hid (OwnL.other (O1.out.ext he2) ⟨(w.heap.size + 1 + 1), 5, none⟩ (.slice A2 names.length c2) F1.out); have O2 := Lib.hid (OwnL.other ho2 ⟨(w.heap.size + 1 + 1), 5, none⟩ (.slice A2 names.length c2) F2.out); replace HA := (HA.ext he2).other (g' := (w.heap.size + 1 + 1)) (by omega) 5 (.slice A2 names.length c2); replace HR := (HR.ext he2).other (g' := (w.heap.size + 1 + 1)) (by omega) 5 (.slice A2 names.length c2); replace HO := (HO.ext he2).set 5 (.slice A2 names.length c2); have e2 := (e1.trans he2).setCell (p := ⟨(w.heap.size + 1 + 1), 5, none⟩) (by show w.heap.size ≤ (w.heap.size + 1 + 1); omega) (.slice A2 names.length c2); have x3 := Ext_alloc (.cells #[] 3) (Ext.refl (w2.setCell ⟨(w.heap.size + 1 + 1), 5, none⟩ (.slice A2 names.length c2))); have a3 := (HA.ext x3).cell; clear e1 he2 ho2 x2 hc2 hb2)
    | (at_builtin; have hb3 : (([] : List Int).length + tags.length) * 8 ≤ 140737488355328 := (by simp only [List.length_nil]; omega); have hc3 : 0 < tags.length → ∃ ad, At = some ad ∧ ∀ j u, (tags.map vint)[j]? = some u → ((w2.setCell ⟨(w.heap.size + 1 + 1), 5, none⟩ (.slice A2 names.length c2)).alloc (.cells #[] 3)).cell? (ad.add j) = some u := fun hp => src0 ht (e2.trans x3) hp; have OE3 := OwnL.empty (f := vint) (e := 3) (Ext.refl (w2.setCell ⟨(w.heap.size + 1 + 1), 5, none⟩ (.slice A2 names.length c2))); rw [show ((w2.setCell ⟨(w.heap.size + 1 + 1), 5, none⟩ (.slice A2 names.length c2))).heap.size = w2.heap.size by simp] at OE3; have HOE3 := Lib.hid OE3; clear OE3; refine wpList_appL rfl (.tmp 15) (.tmp 17) _ rfl E_int (by omega) (w2.setCell ⟨(w.heap.size + 1 + 1), 5, none⟩ (.slice A2 names.length c2)) _ vint (fun _ => rfl) _ rfl At tags.length ct rfl [] tags HOE3.out x3 rfl hc3 hb3 ?_; intro v3 w3 ho3 he3 _ _; rw [List.nil_append] at ho3; obtain ⟨A3, c3, hv3, _⟩ := OwnL.rd ho3 s3; subst hv3; have p3 := (HO.ext he3).cell; have q3 := (HO.ext he3).free; have G3 : Hid (∀ g, (Value.slice A3 tags.length c3).ownBlock = some g → (w2.setCell ⟨(w.heap.size + 1 + 1), 5, none⟩ (.slice A2 names.length c2)).heap.size ≤ g ∧ g < w3.heap.size) := fun g hg => World.ownsRow.lt ho3 g hg; have F3 : Hid ((Value.slice A3 tags.length c3).ownBlock ≠ some (w.heap.size + 1 + 1)) := OwnL.far ho3 (.inl (by have := HO.lt; omega)); have y3 : Hid (w3.heap.size ≤ (w3.setCell ⟨(w.heap.size + 1 + 1), 6, none⟩ (.slice A3 tags.length c3)).heap.size) := (by show _ ≤ _; simp); have t3 := Lib.hid he3.size; replace O1 := Lib.hid (OwnL.other (O1.out.ext he3) ⟨(w.heap.size + 1 + 1), 6, none⟩ (.slice A3 tags.length c3) F1.out); replace O2 := Lib.hid (OwnL.other (O2.out.ext he3) ⟨(w.heap.size + 1 + 1), 6, none⟩ (.slice A3 tags.length c3) F2.out); have O3 := Lib.hid (OwnL.other ho3 ⟨(w.heap.size + 1 + 1), 6, none⟩ (.slice A3 tags.length c3) F3.out); replace HA := (HA.ext he3).other (g' := (w.heap.size + 1 + 1)) (by omega) 6 (.slice A3 tags.length c3); replace HR := (HR.ext he3).other (g' := (w.heap.size + 1 + 1)) (by omega) 6 (.slice A3 tags.length c3); replace HO := (HO.ext he3).set 6 (.slice A3 tags.length c3); have e3 := (e2.trans he3).setCell (p := ⟨(w.heap.size + 1 + 1), 6, none⟩) (by show w.heap.size ≤ (w.heap.size + 1 + 1); omega) (.slice A3 tags.length c3); have x4 := Ext_alloc (.cells #[] 3) (Ext.refl (w3.setCell ⟨(w.heap.size + 1 + 1), 6, none⟩ (.slice A3 tags.length c3))); have a4 := (HA.ext x4).cell; clear e2 he3 ho3 x3 hc3 hb3)
    | (at_builtin; have hb4 : (([] : List Int).length + kids.length) * 8 ≤ 140737488355328 := (by simp only [List.length_nil]; omega); have hc4 : 0 < kids.length → ∃ ad, Ak = some ad ∧ ∀ j u, (kids.map vint)[j]? = some u → ((w3.setCell ⟨(w.heap.size + 1 + 1), 6, none⟩ (.slice A3 tags.length c3)).alloc (.cells #[] 3)).cell? (ad.add j) = some u := fun hp => src0 hk (e3.trans x4) hp; have OE4 := OwnL.empty (f := vint) (e := 3) (Ext.refl (w3.setCell ⟨(w.heap.size + 1 + 1), 6, none⟩ (.slice A3 tags.length c3))); rw [show ((w3.setCell ⟨(w.heap.size + 1 + 1), 6, none⟩ (.slice A3 tags.length c3))).heap.size = w3.heap.size by simp] at OE4; have HOE4 := Lib.hid OE4; clear OE4; refine wpList_appL rfl (.tmp 20) (.tmp 22) _ rfl E_int (by omega) (w3.setCell ⟨(w.heap.size + 1 + 1), 6, none⟩ (.slice A3 tags.length c3)) _ vint (fun _ => rfl) _ rfl Ak kids.length ck rfl [] kids HOE4.out x4 rfl hc4 hb4 ?_; intro v4 w4 ho4 he4 _ _; rw [List.nil_append] at ho4; obtain ⟨A4, c4, hv4, _⟩ := OwnL.rd ho4 s4; subst hv4; have p4 := (HO.ext he4).cell; have q4 := (HO.ext he4).free; have G4 : Hid (∀ g, (Value.slice A4 kids.length c4).ownBlock = some g → (w3.setCell ⟨(w.heap.size + 1 + 1), 6, none⟩ (.slice A3 tags.length c3)).heap.size ≤ g ∧ g < w4.heap.size) := fun g hg => World.ownsRow.lt ho4 g hg; have F4 : Hid ((Value.slice A4 kids.length c4).ownBlock ≠ some (w.heap.size + 1 + 1)) := OwnL.far ho4 (.inl (by have := HO.lt; omega)); have y4 : Hid (w4.heap.size ≤ (w4.setCell ⟨(w.heap.size + 1 + 1), 7, none⟩ (.slice A4 kids.length c4)).heap.size) := (by show _ ≤ _; simp); have t4 := Lib.hid he4.size; replace O1 := Lib.hid (OwnL.other (O1.out.ext he4) ⟨(w.heap.size + 1 + 1), 7, none⟩ (.slice A4 kids.length c4) F1.out); replace O2 := Lib.hid (OwnL.other (O2.out.ext he4) ⟨(w.heap.size + 1 + 1), 7, none⟩ (.slice A4 kids.length c4) F2.out); replace O3 := Lib.hid (OwnL.other (O3.out.ext he4) ⟨(w.heap.size + 1 + 1), 7, none⟩ (.slice A4 kids.length c4) F3.out); have O4 := Lib.hid (OwnL.other ho4 ⟨(w.heap.size + 1 + 1), 7, none⟩ (.slice A4 kids.length c4) F4.out); replace HA := (HA.ext he4).other (g' := (w.heap.size + 1 + 1)) (by omega) 7 (.slice A4 kids.length c4); replace HR := (HR.ext he4).other (g' := (w.heap.size + 1 + 1)) (by omega) 7 (.slice A4 kids.length c4); replace HO := (HO.ext he4).set 7 (.slice A4 kids.length c4); have e4 := (e3.trans he4).setCell (p := ⟨(w.heap.size + 1 + 1), 7, none⟩) (by show w.heap.size ≤ (w.heap.size + 1 + 1); omega) (.slice A4 kids.length c4); have r4 := HR.cell; have u4 := HR.free; have p5 := HO.cell; clear e3 he4 ho4 x4 hc4 hb4))
  have z0 := HSA.out
  have y1 := y1.out; have y2 := y2.out; have y3 := y3.out; have y4 := y4.out; have t1 := t1.out; have t2 := t2.out; have t3 := t3.out; have t4 := t4.out
  have G := grown_put8 (w4.setCell ⟨(w.heap.size + 1 + 1), 7, none⟩ (.slice A4 kids.length c4)) (w.heap.size + 1) 0 ⟨⟨nm, kind, size, little, bytes, names, tags, kids⟩, .slice A1 bytes.length c1, .slice A2 names.length c2, .slice A3 tags.length c3, .slice A4 kids.length c4⟩
  refine bodyPost_ret (v := .agg #[.string nm, .int .i64 kind, .int .i64 size, .bool little, .slice A1 bytes.length c1, .slice A2 names.length c2, .slice A3 tags.length c3, .slice A4 kids.length c4]) (by simp [results, Try.results46, go_sem, p5, r4, u4]) rfl ⟨_, _, _, _, rfl, ⟨?_, ?_, ?_, ?_⟩, ?_, ?_⟩
  · exact (OwnL.keep O1.out G (fun g hg he => by have := G1.out g hg; injection he with he; omega)).down (by omega)
  · exact (OwnL.keep O2.out G (fun g hg he => by have := G2.out g hg; injection he with he; omega)).down (by omega)
  · exact (OwnL.keep O3.out G (fun g hg he => by have := G3.out g hg; injection he with he; omega)).down (by omega)
  · exact (OwnL.keep O4.out G (fun g hg he => by have := G4.out g hg; injection he with he; omega)).down (by omega)
  · refine Far.cons (Far.cons (Far.cons (Far.one _) ?_) ?_) ?_
    · intro v hv g h1 h2
      have := G3.out g h1
      simp only [List.mem_cons, List.not_mem_nil, or_false] at hv
      rcases hv with rfl
      have := G4.out g h2; omega
    · intro v hv g h1 h2
      have := G2.out g h1
      simp only [List.mem_cons, List.not_mem_nil, or_false] at hv
      rcases hv with rfl | rfl
      · have := G3.out g h2; omega
      · have := G4.out g h2; omega
    · intro v hv g h1 h2
      have := G1.out g h1
      simp only [List.mem_cons, List.not_mem_nil, or_false] at hv
      rcases hv with rfl | rfl | rfl
      · have := G2.out g h2; omega
      · have := G3.out g h2; omega
      · have := G4.out g h2; omega
  · exact e4.grown G (fun g hg => by injection hg with hg; omega)
set_option maxRecDepth 100000 in
set_option maxHeartbeats 4000000 in
theorem iCopyR_c (r : DRule) (Ab : Option Addr) (cb : Nat) (An : Option Addr) (cn : Nat) (At : Option Addr) (ct : Nat) (Ak : Option Addr) (ck : Nat) (w : World) (h : RdS w r Ab cb An cn At ct Ak ck) (hz : szRl r ≤ 1048576) :
    Calls Try.prog 43 #[vrule r (.slice Ab r.bytes.length cb) (.slice An r.names.length cn) (.slice At r.tags.length ct) (.slice Ak r.kids.length ck)] w fun e w' => ∃ vb vn vt vk, e = .returned (vrule r vb vn vt vk) ∧ RuleOwn w w' ⟨r, vb, vn, vt, vk⟩ ∧ Far [vb, vn, vt, vk] ∧ Ext w w' := by
  obtain ⟨hb, hn, ht, hk⟩ := h
  obtain ⟨⟨s1, s2, s3, s4⟩, z1, z2, z3, z4⟩ := szRl_short hz
  clear hz
  obtain ⟨nm, kind, size, little, bytes, names, tags, kids⟩ := r
  dsimp only at *
  obtain ⟨W0, HW0, HO, HR, e0, hsA⟩ := boxes2' w #[.string nm, .int .i64 kind, .int .i64 size, .bool little, .slice Ab bytes.length cb, .slice An names.length cn, .slice At tags.length ct, .slice Ak kids.length ck] #[.string ⟨#[]⟩, .int .i64 0, .int .i64 0, .bool false, .slice none 0 0, .slice none 0 0, .slice none 0 0, .slice none 0 0] 35 35
  have HSA := Lib.hid hsA; clear hsA
  have s01 := HO.lt
  unfold vrule
  dsimp only
  go_enter Try.func43, Try.ntmps43
  have x1 := Ext_alloc (.cells #[] 5) (Ext.refl W0)
  have OE1 := OwnL.empty (f := vu8) (e := 5) (Ext.refl W0)
  rw [show W0.heap.size = w.heap.size + 1 + 1 by have := HSA.out; omega] at OE1
  have HOE1 := Lib.hid OE1; clear OE1
  go_wp2_with (first
    | (at_builtin; rw [← HW0.out]; have hb1 : (([] : List UInt8).length + bytes.length) * 1 ≤ 140737488355328 := (by simp only [List.length_nil]; omega); have hc1 : 0 < bytes.length → ∃ ad, Ab = some ad ∧ ∀ j u, (bytes.map vu8)[j]? = some u → (W0.alloc (.cells #[] 5)).cell? (ad.add j) = some u := fun hp => src0 hb (e0.trans x1) hp; refine wpList_appL rfl (.tmp 3) (.tmp 5) _ rfl E_u8 (by omega) W0 _ vu8 (fun _ => rfl) _ rfl Ab bytes.length cb rfl [] bytes HOE1.out x1 rfl hc1 hb1 ?_; intro v1 w1 ho1 he1 _ _; rw [List.nil_append] at ho1; obtain ⟨A1, c1, hv1, _⟩ := OwnL.rd ho1 s1; subst hv1; have p1 := (HO.ext he1).cell; have q1 := (HO.ext he1).free; have G1 : Hid (∀ g, (Value.slice A1 bytes.length c1).ownBlock = some g → W0.heap.size ≤ g ∧ g < w1.heap.size) := fun g hg => World.ownsRow.lt ho1 g hg; have F1 : Hid ((Value.slice A1 bytes.length c1).ownBlock ≠ some w.heap.size) := OwnL.far ho1 (.inl (by have := HO.lt; omega)); have y1 : Hid (w1.heap.size ≤ (w1.setCell ⟨w.heap.size, 4, none⟩ (.slice A1 bytes.length c1)).heap.size) := (by show _ ≤ _; simp); have t1 := Lib.hid he1.size; have O1 := Lib.hid (OwnL.other ho1 ⟨w.heap.size, 4, none⟩ (.slice A1 bytes.length c1) F1.out); replace HR := (HR.ext he1).other (g' := w.heap.size) (by omega) 4 (.slice A1 bytes.length c1); replace HO := (HO.ext he1).set 4 (.slice A1 bytes.length c1); have e1 := (e0.trans he1).setCell (p := ⟨w.heap.size, 4, none⟩) (by show w.heap.size ≤ w.heap.size; omega) (.slice A1 bytes.length c1); have x2 := Ext_alloc (.cells #[] 9) (Ext.refl (w1.setCell ⟨w.heap.size, 4, none⟩ (.slice A1 bytes.length c1))); have a2 := (HO.ext x2).cell; clear e0 he1 ho1 x1 hc1 hb1)
    | (at_builtin; have hb2 : (([] : List ByteArray).length + names.length) * 16 ≤ 140737488355328 := (by simp only [List.length_nil]; omega); have hc2 : 0 < names.length → ∃ ad, An = some ad ∧ ∀ j u, (names.map vstr)[j]? = some u → ((w1.setCell ⟨w.heap.size, 4, none⟩ (.slice A1 bytes.length c1)).alloc (.cells #[] 9)).cell? (ad.add j) = some u := fun hp => src0 hn (e1.trans x2) hp; have OE2 := OwnL.empty (f := vstr) (e := 9) (Ext.refl (w1.setCell ⟨w.heap.size, 4, none⟩ (.slice A1 bytes.length c1))); rw [show ((w1.setCell ⟨w.heap.size, 4, none⟩ (.slice A1 bytes.length c1))).heap.size = w1.heap.size by simp] at OE2; have HOE2 := Lib.hid OE2; clear OE2; refine wpList_appL rfl (.tmp 8) (.tmp 10) _ rfl E_str (by omega) (w1.setCell ⟨w.heap.size, 4, none⟩ (.slice A1 bytes.length c1)) _ vstr (fun _ => rfl) _ rfl An names.length cn rfl [] names HOE2.out x2 rfl hc2 hb2 ?_; intro v2 w2 ho2 he2 _ _; rw [List.nil_append] at ho2; obtain ⟨A2, c2, hv2, _⟩ := OwnL.rd ho2 s2; subst hv2; have p2 := (HO.ext he2).cell; have q2 := (HO.ext he2).free; have G2 : Hid (∀ g, (Value.slice A2 names.length c2).ownBlock = some g → (w1.setCell ⟨w.heap.size, 4, none⟩ (.slice A1 bytes.length c1)).heap.size ≤ g ∧ g < w2.heap.size) := fun g hg => World.ownsRow.lt ho2 g hg; have F2 : Hid ((Value.slice A2 names.length c2).ownBlock ≠ some w.heap.size) := OwnL.far ho2 (.inl (by have := HO.lt; omega)); have y2 : Hid (w2.heap.size ≤ (w2.setCell ⟨w.heap.size, 5, none⟩ (.slice A2 names.length c2)).heap.size) := (by show _ ≤ _; simp); have t2 := Lib.hid he2.size; replace O1 := Lib.hid (OwnL.other (O1.out.ext he2) ⟨w.heap.size, 5, none⟩ (.slice A2 names.length c2) F1.out); have O2 := Lib.hid (OwnL.other ho2 ⟨w.heap.size, 5, none⟩ (.slice A2 names.length c2) F2.out); replace HR := (HR.ext he2).other (g' := w.heap.size) (by omega) 5 (.slice A2 names.length c2); replace HO := (HO.ext he2).set 5 (.slice A2 names.length c2); have e2 := (e1.trans he2).setCell (p := ⟨w.heap.size, 5, none⟩) (by show w.heap.size ≤ w.heap.size; omega) (.slice A2 names.length c2); have x3 := Ext_alloc (.cells #[] 3) (Ext.refl (w2.setCell ⟨w.heap.size, 5, none⟩ (.slice A2 names.length c2))); have a3 := (HO.ext x3).cell; clear e1 he2 ho2 x2 hc2 hb2)
    | (at_builtin; have hb3 : (([] : List Int).length + tags.length) * 8 ≤ 140737488355328 := (by simp only [List.length_nil]; omega); have hc3 : 0 < tags.length → ∃ ad, At = some ad ∧ ∀ j u, (tags.map vint)[j]? = some u → ((w2.setCell ⟨w.heap.size, 5, none⟩ (.slice A2 names.length c2)).alloc (.cells #[] 3)).cell? (ad.add j) = some u := fun hp => src0 ht (e2.trans x3) hp; have OE3 := OwnL.empty (f := vint) (e := 3) (Ext.refl (w2.setCell ⟨w.heap.size, 5, none⟩ (.slice A2 names.length c2))); rw [show ((w2.setCell ⟨w.heap.size, 5, none⟩ (.slice A2 names.length c2))).heap.size = w2.heap.size by simp] at OE3; have HOE3 := Lib.hid OE3; clear OE3; refine wpList_appL rfl (.tmp 13) (.tmp 15) _ rfl E_int (by omega) (w2.setCell ⟨w.heap.size, 5, none⟩ (.slice A2 names.length c2)) _ vint (fun _ => rfl) _ rfl At tags.length ct rfl [] tags HOE3.out x3 rfl hc3 hb3 ?_; intro v3 w3 ho3 he3 _ _; rw [List.nil_append] at ho3; obtain ⟨A3, c3, hv3, _⟩ := OwnL.rd ho3 s3; subst hv3; have p3 := (HO.ext he3).cell; have q3 := (HO.ext he3).free; have G3 : Hid (∀ g, (Value.slice A3 tags.length c3).ownBlock = some g → (w2.setCell ⟨w.heap.size, 5, none⟩ (.slice A2 names.length c2)).heap.size ≤ g ∧ g < w3.heap.size) := fun g hg => World.ownsRow.lt ho3 g hg; have F3 : Hid ((Value.slice A3 tags.length c3).ownBlock ≠ some w.heap.size) := OwnL.far ho3 (.inl (by have := HO.lt; omega)); have y3 : Hid (w3.heap.size ≤ (w3.setCell ⟨w.heap.size, 6, none⟩ (.slice A3 tags.length c3)).heap.size) := (by show _ ≤ _; simp); have t3 := Lib.hid he3.size; replace O1 := Lib.hid (OwnL.other (O1.out.ext he3) ⟨w.heap.size, 6, none⟩ (.slice A3 tags.length c3) F1.out); replace O2 := Lib.hid (OwnL.other (O2.out.ext he3) ⟨w.heap.size, 6, none⟩ (.slice A3 tags.length c3) F2.out); have O3 := Lib.hid (OwnL.other ho3 ⟨w.heap.size, 6, none⟩ (.slice A3 tags.length c3) F3.out); replace HR := (HR.ext he3).other (g' := w.heap.size) (by omega) 6 (.slice A3 tags.length c3); replace HO := (HO.ext he3).set 6 (.slice A3 tags.length c3); have e3 := (e2.trans he3).setCell (p := ⟨w.heap.size, 6, none⟩) (by show w.heap.size ≤ w.heap.size; omega) (.slice A3 tags.length c3); have x4 := Ext_alloc (.cells #[] 3) (Ext.refl (w3.setCell ⟨w.heap.size, 6, none⟩ (.slice A3 tags.length c3))); have a4 := (HO.ext x4).cell; clear e2 he3 ho3 x3 hc3 hb3)
    | (at_builtin; have hb4 : (([] : List Int).length + kids.length) * 8 ≤ 140737488355328 := (by simp only [List.length_nil]; omega); have hc4 : 0 < kids.length → ∃ ad, Ak = some ad ∧ ∀ j u, (kids.map vint)[j]? = some u → ((w3.setCell ⟨w.heap.size, 6, none⟩ (.slice A3 tags.length c3)).alloc (.cells #[] 3)).cell? (ad.add j) = some u := fun hp => src0 hk (e3.trans x4) hp; have OE4 := OwnL.empty (f := vint) (e := 3) (Ext.refl (w3.setCell ⟨w.heap.size, 6, none⟩ (.slice A3 tags.length c3))); rw [show ((w3.setCell ⟨w.heap.size, 6, none⟩ (.slice A3 tags.length c3))).heap.size = w3.heap.size by simp] at OE4; have HOE4 := Lib.hid OE4; clear OE4; refine wpList_appL rfl (.tmp 18) (.tmp 20) _ rfl E_int (by omega) (w3.setCell ⟨w.heap.size, 6, none⟩ (.slice A3 tags.length c3)) _ vint (fun _ => rfl) _ rfl Ak kids.length ck rfl [] kids HOE4.out x4 rfl hc4 hb4 ?_; intro v4 w4 ho4 he4 _ _; rw [List.nil_append] at ho4; obtain ⟨A4, c4, hv4, _⟩ := OwnL.rd ho4 s4; subst hv4; have p4 := (HO.ext he4).cell; have q4 := (HO.ext he4).free; have G4 : Hid (∀ g, (Value.slice A4 kids.length c4).ownBlock = some g → (w3.setCell ⟨w.heap.size, 6, none⟩ (.slice A3 tags.length c3)).heap.size ≤ g ∧ g < w4.heap.size) := fun g hg => World.ownsRow.lt ho4 g hg; have F4 : Hid ((Value.slice A4 kids.length c4).ownBlock ≠ some w.heap.size) := OwnL.far ho4 (.inl (by have := HO.lt; omega)); have y4 : Hid (w4.heap.size ≤ (w4.setCell ⟨w.heap.size, 7, none⟩ (.slice A4 kids.length c4)).heap.size) := (by show _ ≤ _; simp); have t4 := Lib.hid he4.size; replace O1 := Lib.hid (OwnL.other (O1.out.ext he4) ⟨w.heap.size, 7, none⟩ (.slice A4 kids.length c4) F1.out); replace O2 := Lib.hid (OwnL.other (O2.out.ext he4) ⟨w.heap.size, 7, none⟩ (.slice A4 kids.length c4) F2.out); replace O3 := Lib.hid (OwnL.other (O3.out.ext he4) ⟨w.heap.size, 7, none⟩ (.slice A4 kids.length c4) F3.out); have O4 := Lib.hid (OwnL.other ho4 ⟨w.heap.size, 7, none⟩ (.slice A4 kids.length c4) F4.out); replace HR := (HR.ext he4).other (g' := w.heap.size) (by omega) 7 (.slice A4 kids.length c4); replace HO := (HO.ext he4).set 7 (.slice A4 kids.length c4); have e4 := (e3.trans he4).setCell (p := ⟨w.heap.size, 7, none⟩) (by show w.heap.size ≤ w.heap.size; omega) (.slice A4 kids.length c4); have r4 := HR.cell; have u4 := HR.free; have p5 := HO.cell; clear e3 he4 ho4 x4 hc4 hb4))
  have z0 := HSA.out
  have y1 := y1.out; have y2 := y2.out; have y3 := y3.out; have y4 := y4.out; have t1 := t1.out; have t2 := t2.out; have t3 := t3.out; have t4 := t4.out
  have G := grown_put8 (w4.setCell ⟨w.heap.size, 7, none⟩ (.slice A4 kids.length c4)) (w.heap.size + 1) 0 ⟨⟨nm, kind, size, little, bytes, names, tags, kids⟩, .slice A1 bytes.length c1, .slice A2 names.length c2, .slice A3 tags.length c3, .slice A4 kids.length c4⟩
  refine bodyPost_ret (v := .agg #[.string nm, .int .i64 kind, .int .i64 size, .bool little, .slice A1 bytes.length c1, .slice A2 names.length c2, .slice A3 tags.length c3, .slice A4 kids.length c4]) (by simp [results, Try.results43, go_sem, p5, r4, u4]) rfl ⟨_, _, _, _, rfl, ⟨?_, ?_, ?_, ?_⟩, ?_, ?_⟩
  · exact (OwnL.keep O1.out G (fun g hg he => by have := G1.out g hg; injection he with he; omega)).down (by omega)
  · exact (OwnL.keep O2.out G (fun g hg he => by have := G2.out g hg; injection he with he; omega)).down (by omega)
  · exact (OwnL.keep O3.out G (fun g hg he => by have := G3.out g hg; injection he with he; omega)).down (by omega)
  · exact (OwnL.keep O4.out G (fun g hg he => by have := G4.out g hg; injection he with he; omega)).down (by omega)
  · refine Far.cons (Far.cons (Far.cons (Far.one _) ?_) ?_) ?_
    · intro v hv g h1 h2
      have := G3.out g h1
      simp only [List.mem_cons, List.not_mem_nil, or_false] at hv
      rcases hv with rfl
      have := G4.out g h2; omega
    · intro v hv g h1 h2
      have := G2.out g h1
      simp only [List.mem_cons, List.not_mem_nil, or_false] at hv
      rcases hv with rfl | rfl
      · have := G3.out g h2; omega
      · have := G4.out g h2; omega
    · intro v hv g h1 h2
      have := G1.out g h1
      simp only [List.mem_cons, List.not_mem_nil, or_false] at hv
      rcases hv with rfl | rfl | rfl
      · have := G2.out g h2; omega
      · have := G3.out g h2; omega
      · have := G4.out g h2; omega
  · exact e4.grown G (fun g hg => by injection hg with hg; omega)
end Go.Proofs.Ytophjmphjdhjoaa
