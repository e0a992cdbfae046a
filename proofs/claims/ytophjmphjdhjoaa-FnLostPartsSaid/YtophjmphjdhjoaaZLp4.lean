/- A drawn description: one of its rules is changed in place. (Printed by gen/gx24.py.) -/
import Derived.Test.YtophjmphjdhjoaaZLp3
import Derived.OrdersHeld
import Derived.Deep.RegionHeld3
import Derived.IntWalk
set_option linter.unusedVariables false
set_option linter.unusedSimpArgs false
namespace Go.Proofs.Ytophjmphjdhjoaa
open Go.RowKit Go.Sort

/-- the sizes of a drawn rule, changed or not -/
structure SmR (r : DRule) : Prop where
  nm : r.nm.size ≤ 60
  lens : r.bytes.length ≤ 16 ∧ r.names.length ≤ 16 ∧ r.tags.length ≤ 16 ∧ r.kids.length ≤ 16
  nms : ∀ t ∈ r.names, t.size ≤ 60
  kind : -100 ≤ r.kind ∧ r.kind ≤ 100
  ints : (-100000 ≤ r.size ∧ r.size ≤ 100000) ∧ (∀ x ∈ r.tags, -200000 ≤ x ∧ x ≤ 200000) ∧ ∀ x ∈ r.kids, -200000 ≤ x ∧ x ≤ 200000
theorem SmallR.sm {r : DRule} (h : SmallR r) (hk : -100 ≤ r.kind ∧ r.kind ≤ 100) : SmR r :=
  ⟨by have := h.nm; omega, by have := h.lens; omega, fun t ht => by have := h.nms t ht; omega, hk, ⟨h.ints.1, fun x hx => by have := h.ints.2.1 x hx; omega, fun x hx => by have := h.ints.2.2 x hx; omega⟩⟩
def SmD (ds : List DRule) : Prop := ds.length ≤ 24 ∧ ∀ r ∈ ds, SmR r
theorem SmR.short {r : DRule} (h : SmR r) : ShortR r := by have := h.lens; unfold ShortR; omega
theorem sum_le' {α : Type} (f : α → Nat) (m : Nat) : ∀ l : List α, (∀ x ∈ l, f x ≤ m) → (l.map f).sum ≤ l.length * m
  | [], _ => by simp
  | a :: t, h => by
    have h1 := h a (List.mem_cons_self ..)
    have h2 := sum_le' f m t (fun x hx => h x (List.mem_cons_of_mem _ hx))
    rw [List.map_cons, List.sum_cons, List.length_cons, Nat.add_mul]; omega
theorem SmallD.szD {ds : List DRule} (h : SmallD ds) : szD ds ≤ 1048576 := by
  have h0 : ∀ r ∈ ds, szRl r ≤ 1200 := fun r hr => by
    have h1 := (h.2 r hr).lens; have h2 := (h.2 r hr).nm
    have h3 := sum_le' ByteArray.size 40 r.names (h.2 r hr).nms
    have h4 : r.names.length * 40 ≤ 8 * 40 := Nat.mul_le_mul_right 40 h1.2.1
    unfold szRl szStrs; omega
  have h1 := sum_le' szRl 1200 ds h0
  have h2 : ds.length * 1200 ≤ 24 * 1200 := Nat.mul_le_mul_right 1200 h.1
  have h3 := h.1
  unfold Go.Proofs.Ytophjmphjdhjoaa.szD; omega
theorem cells_put : ∀ (ps : List RV) (k j : Nat) (h : k < ps.length) (u : Value) (p' : RV), j < 8 → p'.cells = ps[k].cells.set j u → (ps.flatMap RV.cells).set (k * 8 + j) u = (ps.set k p').flatMap RV.cells := by
  intro ps
  induction ps with
  | nil => intro k j h; simp at h
  | cons p s ih =>
    intro k j h u p' hj hp
    cases k with
    | zero =>
      simp only [List.getElem_cons_zero] at hp
      rw [List.flatMap_cons, List.set_append_left _ _ (by simp [RV.cells]; omega), List.set_cons_zero, List.flatMap_cons, hp]
      simp
    | succ k =>
      have h' : k < s.length := by simpa using h
      simp only [List.getElem_cons_succ] at hp
      rw [List.flatMap_cons, List.set_append_right _ _ (by simp [RV.cells]; omega)]
      rw [show (k + 1) * 8 + j - p.cells.length = k * 8 + j by simp [RV.cells]; omega, ih k j h' u p' hj hp]
      simp [List.flatMap_cons]
theorem vals_put : ∀ (ps : List RV) (k j : Nat) (h : k < ps.length) (u : Value) (p' : RV), j < 4 → p'.vals = ps[k].vals.set j u → (ps.set k p').flatMap RV.vals = (ps.flatMap RV.vals).set (k * 4 + j) u := by
  intro ps
  induction ps with
  | nil => intro k j h; simp at h
  | cons p s ih =>
    intro k j h u p' hj hp
    cases k with
    | zero =>
      simp only [List.getElem_cons_zero] at hp
      rw [List.set_cons_zero, List.flatMap_cons, List.flatMap_cons, List.set_append_left _ _ (by simp [RV.vals]; omega), hp]
      simp
    | succ k =>
      have h' : k < s.length := by simpa using h
      simp only [List.getElem_cons_succ] at hp
      rw [List.set_cons_succ, List.flatMap_cons, List.flatMap_cons, List.set_append_right _ _ (by simp [RV.vals]; omega)]
      rw [show (k + 1) * 4 + j - p.vals.length = k * 4 + j by simp [RV.vals]; omega, ih k j h' u p' hj hp]
theorem vals_len (ps : List RV) : (ps.flatMap RV.vals).length = ps.length * 4 := by
  induction ps with
  | nil => rfl
  | cons p t ih => rw [List.flatMap_cons, List.length_append, ih, List.length_cons]; simp [RV.vals]; omega
theorem vals_get : ∀ (ps : List RV) (k j : Nat) (h : k < ps.length), j < 4 → (ps.flatMap RV.vals)[k * 4 + j]? = ps[k].vals[j]? := by
  intro ps
  induction ps with
  | nil => intro i j h; simp at h
  | cons p t ih =>
    intro i j h hj
    rw [List.flatMap_cons]
    cases i with
    | zero => rw [List.getElem?_append_left (by simp [RV.vals]; omega)]; simp
    | succ i =>
      rw [List.getElem?_append_right (by simp [RV.vals]; omega)]
      have : (i + 1) * 4 + j - p.vals.length = i * 4 + j := by simp [RV.vals]; omega
      rw [this, ih i j (by simpa using h) hj]
      simp
/-- a value is exchanged for one in the same block, or in a new one -/
theorem far_set {l : List Value} (h : Far l) (i : Nat) (hi : i < l.length) (v' : Value) (N : Nat) (hN : ∀ u ∈ l, ∀ b, u.ownBlock = some b → b < N) (hv : v'.ownBlock = l[i].ownBlock ∨ v'.ownBlock = some N) : Far (l.set i v') := by
  unfold Far at *
  rw [List.pairwise_iff_getElem] at *
  intro a b ha hb hab g h1 h2
  rw [List.length_set] at ha hb
  rw [List.getElem_set] at h1 h2
  split at h1
  · rename_i e1
    subst e1
    rw [if_neg (by omega)] at h2
    rcases hv with hv | hv
    · exact h i b ha hb hab g (hv.symm.trans h1) h2
    · rw [hv] at h1; injection h1 with h1
      have := hN _ (List.getElem_mem hb) g h2; omega
  · split at h2
    · rename_i e2
      subst e2
      rcases hv with hv | hv
      · exact h a i ha hb hab g h1 (hv.symm.trans h2)
      · rw [hv] at h2; injection h2 with h2
        have := hN _ (List.getElem_mem ha) g h1; omega
    · exact h a b ha hb hab g h1 h2
theorem far_same {l l' : List Value} (h : Far l) (e : l' = l) : Far l' := e ▸ h
theorem mem_set_vals {l : List Value} {i : Nat} {v' u : Value} (h : u ∈ l.set i v') : u ∈ l ∨ u = v' := List.mem_or_eq_of_mem_set h
/-- a store of a number, a name or a flag into a rule -/
theorem DS.put {wb w wr : World} {p : Nat} {A : Option Addr} {l : List UInt8} {c g b n cap : Nat} {ps : List RV} {R : Nat} (h : DS wb w wr p A l c g (.slice (some ⟨b, 0, none⟩) n cap) ps R) (k j : Nat) (hk : k < ps.length) (hj : j < 4) (u : Value) (p' : RV) (hc : p'.cells = ps[k].cells.set j u) (hv : p'.vals = ps[k].vals)
    (hr : p'.r.bytes = ps[k].r.bytes ∧ p'.r.names = ps[k].r.names ∧ p'.r.tags = ps[k].r.tags ∧ p'.r.kids = ps[k].r.kids) :
    (wr.cell? ⟨b, k * 8 + j, none⟩ = ps[k].cells[j]? ∧ wr.frozen? ⟨b, k * 8 + j, none⟩ = false) ∧ DS wb w (wr.setCell ⟨b, k * 8 + j, none⟩ u) p A l c g (.slice (some ⟨b, 0, none⟩) n cap) (ps.set k p') R := by
  have hn : n = ps.length := by obtain ⟨_, _, hh⟩ := h.own.shape; injection hh
  subst hn
  have hbn := h.new _ (List.mem_cons_self ..) b rfl
  have hblk := h.own.block _ (List.mem_cons_self ..) b rfl
  have hfar := h.own.far
  unfold Far at hfar
  rw [List.pairwise_cons] at hfar
  have hsep : ∀ x ∈ ps.flatMap RV.vals, ∀ a, x.ownBlock = some a → some b ≠ some a := fun x hx a ha hh => by injection hh with hh; subst hh; exact hfar.1 x hx b rfl ha
  have hvs : (ps.set k p').flatMap RV.vals = ps.flatMap RV.vals := by
    have := vals_put ps k 0 hk p'.vb p' (by omega) (by rw [← hv]; simp [RV.vals])
    rw [this]
    refine List.ext_getElem? fun i => ?_
    rw [List.getElem?_set]
    split
    · rename_i e
      subst e
      have h1 := vals_get ps k 0 hk (by omega)
      rw [h1, ← hv, if_pos (by rw [vals_len]; omega)]
      simp [RV.vals]
    · rfl
  have hrow := (h.own.row.stored (k * 8 + j) u).1
  rw [cells_put ps k j hk u p' (by omega) hc] at hrow
  have hcell : wr.cell? ⟨b, k * 8 + j, none⟩ = ps[k].cells[j]? := by
    have h0 := h.own.row.cellAt (k * 8 + j) (by omega)
    rw [h0, cells_get ps k j hk (by omega)]
  refine ⟨⟨hcell, h.own.row.frozenAt _⟩, h.box.other hbn.2.1.symm _ u, ⟨by rw [List.length_set]; exact hrow, fun q hq => ?_, far_same h.own.far (by rw [hvs])⟩, by rw [hvs]; exact h.new, h.cur.set (a := ⟨b, k * 8 + j, none⟩) hbn.2.2.1 hblk.1 u, grown_new (a := ⟨b, k * 8 + j, none⟩) h.grow hbn.1 u, h.gw, h.gb, h.gp, h.res.other hbn.2.2.2.symm _ u, h.gR, h.pR⟩
  have hkeep : ∀ q ∈ ps, RuleOwn wb (wr.setCell ⟨b, k * 8 + j, none⟩ u) q := fun q hq => (h.own.each q hq).keep (grown_set wr ⟨b, k * 8 + j, none⟩ u) (fun x hx a ha => hsep x (List.mem_flatMap.2 ⟨q, hq, hx⟩) a ha)
  rcases List.mem_or_eq_of_mem_set hq with h1 | rfl
  · exact hkeep q h1
  · have h2 := hkeep ps[k] (List.getElem_mem hk)
    obtain ⟨r', vb', vn', vt', vk'⟩ := q
    simp only [RV.vals, List.cons.injEq, and_true] at hv
    dsimp only at hr
    obtain ⟨rfl, rfl, rfl, rfl⟩ := hv
    exact ⟨by show OwnL _ _ _ _ _ r'.bytes; rw [hr.1]; exact h2.b, by show OwnL _ _ _ _ _ r'.names; rw [hr.2.1]; exact h2.n, by show OwnL _ _ _ _ _ r'.tags; rw [hr.2.2.1]; exact h2.t, by show OwnL _ _ _ _ _ r'.kids; rw [hr.2.2.2]; exact h2.k⟩
/-- an append to a row of a rule, and the store of its new slice -/
theorem DS.app_b {wb w W w2 : World} {p : Nat} {A : Option Addr} {l : List UInt8} {c g b n cap : Nat} {ps : List RV} {R : Nat} (h : DS wb w W p A l c g (.slice (some ⟨b, 0, none⟩) n cap) ps R) (k : Nat) (hk : k < ps.length) {v' : Value} {xs : List UInt8} (ho : OwnL vu8 5 wb w2 v' xs) (he : Ext wb w2)
    (hb : v'.ownBlock = ps[k].vb.ownBlock ∨ v'.ownBlock = some W.heap.size) (hg : W.grownBy w2 ps[k].vb.ownBlock) :
    (w2.cell? ⟨b, k * 8 + 4, none⟩ = some ps[k].vb ∧ w2.frozen? ⟨b, k * 8 + 4, none⟩ = false ∧ w2.cell? ⟨g, 0, none⟩ = some (.slice (some ⟨b, 0, none⟩) n cap)) ∧ DS wb w (w2.setCell ⟨b, k * 8 + 4, none⟩ v') p A l c g (.slice (some ⟨b, 0, none⟩) n cap) (ps.set k ⟨{ ps[k].r with bytes := xs }, v', ps[k].vn, ps[k].vt, ps[k].vk⟩) R := by
  have hn : n = ps.length := by obtain ⟨_, _, hh⟩ := h.own.shape; injection hh
  subst hn
  have hbn := h.new _ (List.mem_cons_self ..) b rfl
  have hblk := h.own.block _ (List.mem_cons_self ..) b rfl
  have hold := h.own.block
  have hmem : ps[k].vb ∈ ps.flatMap RV.vals := List.mem_flatMap.2 ⟨ps[k], List.getElem_mem hk, by simp [RV.vals]⟩
  have hnk := h.new _ (List.mem_cons_of_mem _ hmem)
  have hfar := h.own.far
  have hfar0 := hfar
  unfold Far at hfar
  rw [List.pairwise_cons] at hfar
  have hvl := vals_len ps
  have hbX : ∀ a, ps[k].vb.ownBlock = some a → a ≠ b := fun a ha hh => by subst hh; exact hfar.1 _ hmem a rfl ha
  -- the other values lie elsewhere
  have hother : ∀ i, i < (ps.flatMap RV.vals).length → i ≠ k * 4 + 0 → ∀ u a, (ps.flatMap RV.vals)[i]? = some u → u.ownBlock = some a → ps[k].vb.ownBlock ≠ some a := by
    intro i hi hne u a hu ha hx
    have h4 := hfar.2
    rw [List.pairwise_iff_getElem] at h4
    have h5 := vals_get ps k 0 hk (by omega)
    have h6 : (ps.flatMap RV.vals)[k * 4 + 0]? = some ps[k].vb := by rw [h5]; simp [RV.vals]
    have hlt : k * 4 + 0 < (ps.flatMap RV.vals).length := by rw [hvl]; omega
    rw [List.getElem?_eq_getElem hi] at hu
    rw [List.getElem?_eq_getElem hlt] at h6
    injection hu with hu; injection h6 with h6
    rcases (by omega : i < k * 4 + 0 ∨ k * 4 + 0 < i) with h7 | h7
    · exact h4 i _ hi hlt h7 a (by rw [hu]; exact ha) (by rw [h6]; exact hx)
    · exact h4 _ i hlt hi h7 a (by rw [h6]; exact hx) (by rw [hu]; exact ha)
  have hset := vals_put ps k 0 hk v' ⟨{ ps[k].r with bytes := xs }, v', ps[k].vn, ps[k].vt, ps[k].vk⟩ (by omega) (by simp [RV.vals])
  have hrow2 := h.own.row.keep hg (fun a ha hh => by injection ha with ha; exact hbX a hh ha.symm)
  have hnv : ∀ a, v'.ownBlock = some a → (w.heap.size ≤ a ∧ a ≠ g ∧ a ≠ p ∧ a ≠ R) ∧ a ≠ b := by
    intro a ha
    rcases hb with hb | hb
    · exact ⟨hnk a (hb.symm.trans ha), hbX a (hb.symm.trans ha)⟩
    · rw [hb] at ha; injection ha with ha
      have h1 := h.box.lt; have h2 := h.res.lt; have h3 := h.cur.lt; have h4 := h.grow.size
      exact ⟨⟨by omega, by omega, by omega, by omega⟩, by omega⟩
  have hB2 : Box w2 g #[.slice (some ⟨b, 0, none⟩) ps.length cap] 26 := h.box.moved hg (fun hh => (hnk g hh).2.1 rfl)
  have hR2 : Box w2 R #[.slice none 0 0] 26 := h.res.moved hg (fun hh => (hnk R hh).2.2.2 rfl)
  have hC2 := Cur.kept h.cur hg (fun hh => (hnk p hh).2.2.1 rfl) he
  have hG2 := grown_own h.grow (fun a ha => (hnk a ha).1) hg
  have hrow := (hrow2.stored (k * 8 + 4) v').1
  rw [cells_put ps k 4 hk v' ⟨{ ps[k].r with bytes := xs }, v', ps[k].vn, ps[k].vt, ps[k].vk⟩ (by omega) (by simp [RV.cells])] at hrow
  have hcell : w2.cell? ⟨b, k * 8 + 4, none⟩ = some ps[k].vb := by
    have h0 := hrow2.cellAt (k * 8 + 4) (by omega)
    rw [h0, cells_get ps k 4 hk (by omega)]
    simp [RV.cells]
  refine ⟨⟨hcell, hrow2.frozenAt _, hB2.cell 0⟩, hB2.other hbn.2.1.symm _ v', ⟨by rw [List.length_set]; exact hrow, fun q hq => ?_, ?_⟩, ?_, hC2.set (a := ⟨b, k * 8 + 4, none⟩) hbn.2.2.1 hblk.1 v', grown_new (a := ⟨b, k * 8 + 4, none⟩) hG2 hbn.1 v', h.gw, h.gb, h.gp, hR2.other hbn.2.2.2.symm _ v', h.gR, h.pR⟩
  · have hst : ∀ {α : Type} {f : α → Value} {e : TypeId} {u : Value} {xs : List α}, OwnL f e wb w2 u xs → (∀ a, u.ownBlock = some a → a ≠ b) → OwnL f e wb (w2.setCell ⟨b, k * 8 + 4, none⟩ v') u xs := fun hu hub => hu.keep (grown_set w2 ⟨b, k * 8 + 4, none⟩ v') (fun a ha hh => by injection hh with hh; exact hub a ha hh.symm)
    have hvb : ∀ u ∈ ps.flatMap RV.vals, ∀ a, u.ownBlock = some a → a ≠ b := fun u hu a ha hh => by subst hh; exact hfar.1 u hu a rfl ha
    have key : ∀ i (hi : i < ps.length) (j : Nat), j < 4 → (i ≠ k ∨ j ≠ 0) → ∀ {α : Type} {f : α → Value} {e : TypeId} {u : Value} {xs : List α}, ps[i].vals[j]? = some u → OwnL f e wb W u xs → OwnL f e wb (w2.setCell ⟨b, k * 8 + 4, none⟩ v') u xs := by
      intro i hi j hj hij α f e u xs hu hown
      have hget := vals_get ps i j hi hj
      rw [hu] at hget
      refine hst (hown.keep hg (fun a ha hh => ?_)) (hvb u (List.mem_of_getElem? hget))
      exact hother (i * 4 + j) (by rw [hvl]; omega) (by rcases hij with h1 | h1 <;> omega) u a hget ha hh
    rcases List.getElem_of_mem hq with ⟨i, hi, rfl⟩
    rw [List.length_set] at hi
    rw [List.getElem_set]
    split
    · rename_i e1
      subst e1
      have h0 := h.own.each _ (List.getElem_mem hk)
      exact ⟨hst ho (fun a ha => (hnv a ha).2), key k hk 1 (by omega) (.inr (by omega)) (by simp [RV.vals]) h0.n, key k hk 2 (by omega) (.inr (by omega)) (by simp [RV.vals]) h0.t, key k hk 3 (by omega) (.inr (by omega)) (by simp [RV.vals]) h0.k⟩
    · rename_i e1
      have h0 := h.own.each _ (List.getElem_mem hi)
      exact ⟨key i hi 0 (by omega) (.inl (fun hh => e1 hh.symm)) (by simp [RV.vals]) h0.b, key i hi 1 (by omega) (.inl (fun hh => e1 hh.symm)) (by simp [RV.vals]) h0.n, key i hi 2 (by omega) (.inl (fun hh => e1 hh.symm)) (by simp [RV.vals]) h0.t, key i hi 3 (by omega) (.inl (fun hh => e1 hh.symm)) (by simp [RV.vals]) h0.k⟩
  · rw [hset]
    have h1 := far_set hfar0 (1 + (k * 4 + 0)) (by simp [hvl]; omega) v' W.heap.size (fun u hu a ha => (hold u hu a ha).2) (by
      have h5 := vals_get ps k 0 hk (by omega)
      have h6 : (Value.slice (some ⟨b, 0, none⟩) ps.length cap :: ps.flatMap RV.vals)[1 + (k * 4 + 0)]? = some ps[k].vb := by
        rw [Nat.add_comm 1, List.getElem?_cons_succ]
        have h7 : ps[k].vals[0]? = some ps[k].vb := by simp [RV.vals]
        exact h5.trans h7
      rw [List.getElem?_eq_getElem (by simp [hvl]; omega)] at h6
      injection h6 with h6
      rw [h6]; exact hb)
    rw [Nat.add_comm 1, List.set_cons_succ] at h1
    exact h1
  · intro u hu a ha
    rw [hset] at hu
    rcases List.mem_cons.1 hu with rfl | hu
    · exact h.new _ (List.mem_cons_self ..) a ha
    · rcases mem_set_vals hu with h1 | rfl
      · exact h.new u (List.mem_cons_of_mem _ h1) a ha
      · exact (hnv a ha).1
/-- an append to a row of a rule, and the store of its new slice -/
theorem DS.app_n {wb w W w2 : World} {p : Nat} {A : Option Addr} {l : List UInt8} {c g b n cap : Nat} {ps : List RV} {R : Nat} (h : DS wb w W p A l c g (.slice (some ⟨b, 0, none⟩) n cap) ps R) (k : Nat) (hk : k < ps.length) {v' : Value} {xs : List ByteArray} (ho : OwnL vstr 9 wb w2 v' xs) (he : Ext wb w2)
    (hb : v'.ownBlock = ps[k].vn.ownBlock ∨ v'.ownBlock = some W.heap.size) (hg : W.grownBy w2 ps[k].vn.ownBlock) :
    (w2.cell? ⟨b, k * 8 + 5, none⟩ = some ps[k].vn ∧ w2.frozen? ⟨b, k * 8 + 5, none⟩ = false ∧ w2.cell? ⟨g, 0, none⟩ = some (.slice (some ⟨b, 0, none⟩) n cap)) ∧ DS wb w (w2.setCell ⟨b, k * 8 + 5, none⟩ v') p A l c g (.slice (some ⟨b, 0, none⟩) n cap) (ps.set k ⟨{ ps[k].r with names := xs }, ps[k].vb, v', ps[k].vt, ps[k].vk⟩) R := by
  have hn : n = ps.length := by obtain ⟨_, _, hh⟩ := h.own.shape; injection hh
  subst hn
  have hbn := h.new _ (List.mem_cons_self ..) b rfl
  have hblk := h.own.block _ (List.mem_cons_self ..) b rfl
  have hold := h.own.block
  have hmem : ps[k].vn ∈ ps.flatMap RV.vals := List.mem_flatMap.2 ⟨ps[k], List.getElem_mem hk, by simp [RV.vals]⟩
  have hnk := h.new _ (List.mem_cons_of_mem _ hmem)
  have hfar := h.own.far
  have hfar0 := hfar
  unfold Far at hfar
  rw [List.pairwise_cons] at hfar
  have hvl := vals_len ps
  have hbX : ∀ a, ps[k].vn.ownBlock = some a → a ≠ b := fun a ha hh => by subst hh; exact hfar.1 _ hmem a rfl ha
  -- the other values lie elsewhere
  have hother : ∀ i, i < (ps.flatMap RV.vals).length → i ≠ k * 4 + 1 → ∀ u a, (ps.flatMap RV.vals)[i]? = some u → u.ownBlock = some a → ps[k].vn.ownBlock ≠ some a := by
    intro i hi hne u a hu ha hx
    have h4 := hfar.2
    rw [List.pairwise_iff_getElem] at h4
    have h5 := vals_get ps k 1 hk (by omega)
    have h6 : (ps.flatMap RV.vals)[k * 4 + 1]? = some ps[k].vn := by rw [h5]; simp [RV.vals]
    have hlt : k * 4 + 1 < (ps.flatMap RV.vals).length := by rw [hvl]; omega
    rw [List.getElem?_eq_getElem hi] at hu
    rw [List.getElem?_eq_getElem hlt] at h6
    injection hu with hu; injection h6 with h6
    rcases (by omega : i < k * 4 + 1 ∨ k * 4 + 1 < i) with h7 | h7
    · exact h4 i _ hi hlt h7 a (by rw [hu]; exact ha) (by rw [h6]; exact hx)
    · exact h4 _ i hlt hi h7 a (by rw [h6]; exact hx) (by rw [hu]; exact ha)
  have hset := vals_put ps k 1 hk v' ⟨{ ps[k].r with names := xs }, ps[k].vb, v', ps[k].vt, ps[k].vk⟩ (by omega) (by simp [RV.vals])
  have hrow2 := h.own.row.keep hg (fun a ha hh => by injection ha with ha; exact hbX a hh ha.symm)
  have hnv : ∀ a, v'.ownBlock = some a → (w.heap.size ≤ a ∧ a ≠ g ∧ a ≠ p ∧ a ≠ R) ∧ a ≠ b := by
    intro a ha
    rcases hb with hb | hb
    · exact ⟨hnk a (hb.symm.trans ha), hbX a (hb.symm.trans ha)⟩
    · rw [hb] at ha; injection ha with ha
      have h1 := h.box.lt; have h2 := h.res.lt; have h3 := h.cur.lt; have h4 := h.grow.size
      exact ⟨⟨by omega, by omega, by omega, by omega⟩, by omega⟩
  have hB2 : Box w2 g #[.slice (some ⟨b, 0, none⟩) ps.length cap] 26 := h.box.moved hg (fun hh => (hnk g hh).2.1 rfl)
  have hR2 : Box w2 R #[.slice none 0 0] 26 := h.res.moved hg (fun hh => (hnk R hh).2.2.2 rfl)
  have hC2 := Cur.kept h.cur hg (fun hh => (hnk p hh).2.2.1 rfl) he
  have hG2 := grown_own h.grow (fun a ha => (hnk a ha).1) hg
  have hrow := (hrow2.stored (k * 8 + 5) v').1
  rw [cells_put ps k 5 hk v' ⟨{ ps[k].r with names := xs }, ps[k].vb, v', ps[k].vt, ps[k].vk⟩ (by omega) (by simp [RV.cells])] at hrow
  have hcell : w2.cell? ⟨b, k * 8 + 5, none⟩ = some ps[k].vn := by
    have h0 := hrow2.cellAt (k * 8 + 5) (by omega)
    rw [h0, cells_get ps k 5 hk (by omega)]
    simp [RV.cells]
  refine ⟨⟨hcell, hrow2.frozenAt _, hB2.cell 0⟩, hB2.other hbn.2.1.symm _ v', ⟨by rw [List.length_set]; exact hrow, fun q hq => ?_, ?_⟩, ?_, hC2.set (a := ⟨b, k * 8 + 5, none⟩) hbn.2.2.1 hblk.1 v', grown_new (a := ⟨b, k * 8 + 5, none⟩) hG2 hbn.1 v', h.gw, h.gb, h.gp, hR2.other hbn.2.2.2.symm _ v', h.gR, h.pR⟩
  · have hst : ∀ {α : Type} {f : α → Value} {e : TypeId} {u : Value} {xs : List α}, OwnL f e wb w2 u xs → (∀ a, u.ownBlock = some a → a ≠ b) → OwnL f e wb (w2.setCell ⟨b, k * 8 + 5, none⟩ v') u xs := fun hu hub => hu.keep (grown_set w2 ⟨b, k * 8 + 5, none⟩ v') (fun a ha hh => by injection hh with hh; exact hub a ha hh.symm)
    have hvb : ∀ u ∈ ps.flatMap RV.vals, ∀ a, u.ownBlock = some a → a ≠ b := fun u hu a ha hh => by subst hh; exact hfar.1 u hu a rfl ha
    have key : ∀ i (hi : i < ps.length) (j : Nat), j < 4 → (i ≠ k ∨ j ≠ 1) → ∀ {α : Type} {f : α → Value} {e : TypeId} {u : Value} {xs : List α}, ps[i].vals[j]? = some u → OwnL f e wb W u xs → OwnL f e wb (w2.setCell ⟨b, k * 8 + 5, none⟩ v') u xs := by
      intro i hi j hj hij α f e u xs hu hown
      have hget := vals_get ps i j hi hj
      rw [hu] at hget
      refine hst (hown.keep hg (fun a ha hh => ?_)) (hvb u (List.mem_of_getElem? hget))
      exact hother (i * 4 + j) (by rw [hvl]; omega) (by rcases hij with h1 | h1 <;> omega) u a hget ha hh
    rcases List.getElem_of_mem hq with ⟨i, hi, rfl⟩
    rw [List.length_set] at hi
    rw [List.getElem_set]
    split
    · rename_i e1
      subst e1
      have h0 := h.own.each _ (List.getElem_mem hk)
      exact ⟨key k hk 0 (by omega) (.inr (by omega)) (by simp [RV.vals]) h0.b, hst ho (fun a ha => (hnv a ha).2), key k hk 2 (by omega) (.inr (by omega)) (by simp [RV.vals]) h0.t, key k hk 3 (by omega) (.inr (by omega)) (by simp [RV.vals]) h0.k⟩
    · rename_i e1
      have h0 := h.own.each _ (List.getElem_mem hi)
      exact ⟨key i hi 0 (by omega) (.inl (fun hh => e1 hh.symm)) (by simp [RV.vals]) h0.b, key i hi 1 (by omega) (.inl (fun hh => e1 hh.symm)) (by simp [RV.vals]) h0.n, key i hi 2 (by omega) (.inl (fun hh => e1 hh.symm)) (by simp [RV.vals]) h0.t, key i hi 3 (by omega) (.inl (fun hh => e1 hh.symm)) (by simp [RV.vals]) h0.k⟩
  · rw [hset]
    have h1 := far_set hfar0 (1 + (k * 4 + 1)) (by simp [hvl]; omega) v' W.heap.size (fun u hu a ha => (hold u hu a ha).2) (by
      have h5 := vals_get ps k 1 hk (by omega)
      have h6 : (Value.slice (some ⟨b, 0, none⟩) ps.length cap :: ps.flatMap RV.vals)[1 + (k * 4 + 1)]? = some ps[k].vn := by
        rw [Nat.add_comm 1, List.getElem?_cons_succ]
        have h7 : ps[k].vals[1]? = some ps[k].vn := by simp [RV.vals]
        exact h5.trans h7
      rw [List.getElem?_eq_getElem (by simp [hvl]; omega)] at h6
      injection h6 with h6
      rw [h6]; exact hb)
    rw [Nat.add_comm 1, List.set_cons_succ] at h1
    exact h1
  · intro u hu a ha
    rw [hset] at hu
    rcases List.mem_cons.1 hu with rfl | hu
    · exact h.new _ (List.mem_cons_self ..) a ha
    · rcases mem_set_vals hu with h1 | rfl
      · exact h.new u (List.mem_cons_of_mem _ h1) a ha
      · exact (hnv a ha).1
/-- an append to a row of a rule, and the store of its new slice -/
theorem DS.app_t {wb w W w2 : World} {p : Nat} {A : Option Addr} {l : List UInt8} {c g b n cap : Nat} {ps : List RV} {R : Nat} (h : DS wb w W p A l c g (.slice (some ⟨b, 0, none⟩) n cap) ps R) (k : Nat) (hk : k < ps.length) {v' : Value} {xs : List Int} (ho : OwnL vint 3 wb w2 v' xs) (he : Ext wb w2)
    (hb : v'.ownBlock = ps[k].vt.ownBlock ∨ v'.ownBlock = some W.heap.size) (hg : W.grownBy w2 ps[k].vt.ownBlock) :
    (w2.cell? ⟨b, k * 8 + 6, none⟩ = some ps[k].vt ∧ w2.frozen? ⟨b, k * 8 + 6, none⟩ = false ∧ w2.cell? ⟨g, 0, none⟩ = some (.slice (some ⟨b, 0, none⟩) n cap)) ∧ DS wb w (w2.setCell ⟨b, k * 8 + 6, none⟩ v') p A l c g (.slice (some ⟨b, 0, none⟩) n cap) (ps.set k ⟨{ ps[k].r with tags := xs }, ps[k].vb, ps[k].vn, v', ps[k].vk⟩) R := by
  have hn : n = ps.length := by obtain ⟨_, _, hh⟩ := h.own.shape; injection hh
  subst hn
  have hbn := h.new _ (List.mem_cons_self ..) b rfl
  have hblk := h.own.block _ (List.mem_cons_self ..) b rfl
  have hold := h.own.block
  have hmem : ps[k].vt ∈ ps.flatMap RV.vals := List.mem_flatMap.2 ⟨ps[k], List.getElem_mem hk, by simp [RV.vals]⟩
  have hnk := h.new _ (List.mem_cons_of_mem _ hmem)
  have hfar := h.own.far
  have hfar0 := hfar
  unfold Far at hfar
  rw [List.pairwise_cons] at hfar
  have hvl := vals_len ps
  have hbX : ∀ a, ps[k].vt.ownBlock = some a → a ≠ b := fun a ha hh => by subst hh; exact hfar.1 _ hmem a rfl ha
  -- the other values lie elsewhere
  have hother : ∀ i, i < (ps.flatMap RV.vals).length → i ≠ k * 4 + 2 → ∀ u a, (ps.flatMap RV.vals)[i]? = some u → u.ownBlock = some a → ps[k].vt.ownBlock ≠ some a := by
    intro i hi hne u a hu ha hx
    have h4 := hfar.2
    rw [List.pairwise_iff_getElem] at h4
    have h5 := vals_get ps k 2 hk (by omega)
    have h6 : (ps.flatMap RV.vals)[k * 4 + 2]? = some ps[k].vt := by rw [h5]; simp [RV.vals]
    have hlt : k * 4 + 2 < (ps.flatMap RV.vals).length := by rw [hvl]; omega
    rw [List.getElem?_eq_getElem hi] at hu
    rw [List.getElem?_eq_getElem hlt] at h6
    injection hu with hu; injection h6 with h6
    rcases (by omega : i < k * 4 + 2 ∨ k * 4 + 2 < i) with h7 | h7
    · exact h4 i _ hi hlt h7 a (by rw [hu]; exact ha) (by rw [h6]; exact hx)
    · exact h4 _ i hlt hi h7 a (by rw [h6]; exact hx) (by rw [hu]; exact ha)
  have hset := vals_put ps k 2 hk v' ⟨{ ps[k].r with tags := xs }, ps[k].vb, ps[k].vn, v', ps[k].vk⟩ (by omega) (by simp [RV.vals])
  have hrow2 := h.own.row.keep hg (fun a ha hh => by injection ha with ha; exact hbX a hh ha.symm)
  have hnv : ∀ a, v'.ownBlock = some a → (w.heap.size ≤ a ∧ a ≠ g ∧ a ≠ p ∧ a ≠ R) ∧ a ≠ b := by
    intro a ha
    rcases hb with hb | hb
    · exact ⟨hnk a (hb.symm.trans ha), hbX a (hb.symm.trans ha)⟩
    · rw [hb] at ha; injection ha with ha
      have h1 := h.box.lt; have h2 := h.res.lt; have h3 := h.cur.lt; have h4 := h.grow.size
      exact ⟨⟨by omega, by omega, by omega, by omega⟩, by omega⟩
  have hB2 : Box w2 g #[.slice (some ⟨b, 0, none⟩) ps.length cap] 26 := h.box.moved hg (fun hh => (hnk g hh).2.1 rfl)
  have hR2 : Box w2 R #[.slice none 0 0] 26 := h.res.moved hg (fun hh => (hnk R hh).2.2.2 rfl)
  have hC2 := Cur.kept h.cur hg (fun hh => (hnk p hh).2.2.1 rfl) he
  have hG2 := grown_own h.grow (fun a ha => (hnk a ha).1) hg
  have hrow := (hrow2.stored (k * 8 + 6) v').1
  rw [cells_put ps k 6 hk v' ⟨{ ps[k].r with tags := xs }, ps[k].vb, ps[k].vn, v', ps[k].vk⟩ (by omega) (by simp [RV.cells])] at hrow
  have hcell : w2.cell? ⟨b, k * 8 + 6, none⟩ = some ps[k].vt := by
    have h0 := hrow2.cellAt (k * 8 + 6) (by omega)
    rw [h0, cells_get ps k 6 hk (by omega)]
    simp [RV.cells]
  refine ⟨⟨hcell, hrow2.frozenAt _, hB2.cell 0⟩, hB2.other hbn.2.1.symm _ v', ⟨by rw [List.length_set]; exact hrow, fun q hq => ?_, ?_⟩, ?_, hC2.set (a := ⟨b, k * 8 + 6, none⟩) hbn.2.2.1 hblk.1 v', grown_new (a := ⟨b, k * 8 + 6, none⟩) hG2 hbn.1 v', h.gw, h.gb, h.gp, hR2.other hbn.2.2.2.symm _ v', h.gR, h.pR⟩
  · have hst : ∀ {α : Type} {f : α → Value} {e : TypeId} {u : Value} {xs : List α}, OwnL f e wb w2 u xs → (∀ a, u.ownBlock = some a → a ≠ b) → OwnL f e wb (w2.setCell ⟨b, k * 8 + 6, none⟩ v') u xs := fun hu hub => hu.keep (grown_set w2 ⟨b, k * 8 + 6, none⟩ v') (fun a ha hh => by injection hh with hh; exact hub a ha hh.symm)
    have hvb : ∀ u ∈ ps.flatMap RV.vals, ∀ a, u.ownBlock = some a → a ≠ b := fun u hu a ha hh => by subst hh; exact hfar.1 u hu a rfl ha
    have key : ∀ i (hi : i < ps.length) (j : Nat), j < 4 → (i ≠ k ∨ j ≠ 2) → ∀ {α : Type} {f : α → Value} {e : TypeId} {u : Value} {xs : List α}, ps[i].vals[j]? = some u → OwnL f e wb W u xs → OwnL f e wb (w2.setCell ⟨b, k * 8 + 6, none⟩ v') u xs := by
      intro i hi j hj hij α f e u xs hu hown
      have hget := vals_get ps i j hi hj
      rw [hu] at hget
      refine hst (hown.keep hg (fun a ha hh => ?_)) (hvb u (List.mem_of_getElem? hget))
      exact hother (i * 4 + j) (by rw [hvl]; omega) (by rcases hij with h1 | h1 <;> omega) u a hget ha hh
    rcases List.getElem_of_mem hq with ⟨i, hi, rfl⟩
    rw [List.length_set] at hi
    rw [List.getElem_set]
    split
    · rename_i e1
      subst e1
      have h0 := h.own.each _ (List.getElem_mem hk)
      exact ⟨key k hk 0 (by omega) (.inr (by omega)) (by simp [RV.vals]) h0.b, key k hk 1 (by omega) (.inr (by omega)) (by simp [RV.vals]) h0.n, hst ho (fun a ha => (hnv a ha).2), key k hk 3 (by omega) (.inr (by omega)) (by simp [RV.vals]) h0.k⟩
    · rename_i e1
      have h0 := h.own.each _ (List.getElem_mem hi)
      exact ⟨key i hi 0 (by omega) (.inl (fun hh => e1 hh.symm)) (by simp [RV.vals]) h0.b, key i hi 1 (by omega) (.inl (fun hh => e1 hh.symm)) (by simp [RV.vals]) h0.n, key i hi 2 (by omega) (.inl (fun hh => e1 hh.symm)) (by simp [RV.vals]) h0.t, key i hi 3 (by omega) (.inl (fun hh => e1 hh.symm)) (by simp [RV.vals]) h0.k⟩
  · rw [hset]
    have h1 := far_set hfar0 (1 + (k * 4 + 2)) (by simp [hvl]; omega) v' W.heap.size (fun u hu a ha => (hold u hu a ha).2) (by
      have h5 := vals_get ps k 2 hk (by omega)
      have h6 : (Value.slice (some ⟨b, 0, none⟩) ps.length cap :: ps.flatMap RV.vals)[1 + (k * 4 + 2)]? = some ps[k].vt := by
        rw [Nat.add_comm 1, List.getElem?_cons_succ]
        have h7 : ps[k].vals[2]? = some ps[k].vt := by simp [RV.vals]
        exact h5.trans h7
      rw [List.getElem?_eq_getElem (by simp [hvl]; omega)] at h6
      injection h6 with h6
      rw [h6]; exact hb)
    rw [Nat.add_comm 1, List.set_cons_succ] at h1
    exact h1
  · intro u hu a ha
    rw [hset] at hu
    rcases List.mem_cons.1 hu with rfl | hu
    · exact h.new _ (List.mem_cons_self ..) a ha
    · rcases mem_set_vals hu with h1 | rfl
      · exact h.new u (List.mem_cons_of_mem _ h1) a ha
      · exact (hnv a ha).1
/-- an append to a row of a rule, and the store of its new slice -/
theorem DS.app_k {wb w W w2 : World} {p : Nat} {A : Option Addr} {l : List UInt8} {c g b n cap : Nat} {ps : List RV} {R : Nat} (h : DS wb w W p A l c g (.slice (some ⟨b, 0, none⟩) n cap) ps R) (k : Nat) (hk : k < ps.length) {v' : Value} {xs : List Int} (ho : OwnL vint 3 wb w2 v' xs) (he : Ext wb w2)
    (hb : v'.ownBlock = ps[k].vk.ownBlock ∨ v'.ownBlock = some W.heap.size) (hg : W.grownBy w2 ps[k].vk.ownBlock) :
    (w2.cell? ⟨b, k * 8 + 7, none⟩ = some ps[k].vk ∧ w2.frozen? ⟨b, k * 8 + 7, none⟩ = false ∧ w2.cell? ⟨g, 0, none⟩ = some (.slice (some ⟨b, 0, none⟩) n cap)) ∧ DS wb w (w2.setCell ⟨b, k * 8 + 7, none⟩ v') p A l c g (.slice (some ⟨b, 0, none⟩) n cap) (ps.set k ⟨{ ps[k].r with kids := xs }, ps[k].vb, ps[k].vn, ps[k].vt, v'⟩) R := by
  have hn : n = ps.length := by obtain ⟨_, _, hh⟩ := h.own.shape; injection hh
  subst hn
  have hbn := h.new _ (List.mem_cons_self ..) b rfl
  have hblk := h.own.block _ (List.mem_cons_self ..) b rfl
  have hold := h.own.block
  have hmem : ps[k].vk ∈ ps.flatMap RV.vals := List.mem_flatMap.2 ⟨ps[k], List.getElem_mem hk, by simp [RV.vals]⟩
  have hnk := h.new _ (List.mem_cons_of_mem _ hmem)
  have hfar := h.own.far
  have hfar0 := hfar
  unfold Far at hfar
  rw [List.pairwise_cons] at hfar
  have hvl := vals_len ps
  have hbX : ∀ a, ps[k].vk.ownBlock = some a → a ≠ b := fun a ha hh => by subst hh; exact hfar.1 _ hmem a rfl ha
  -- the other values lie elsewhere
  have hother : ∀ i, i < (ps.flatMap RV.vals).length → i ≠ k * 4 + 3 → ∀ u a, (ps.flatMap RV.vals)[i]? = some u → u.ownBlock = some a → ps[k].vk.ownBlock ≠ some a := by
    intro i hi hne u a hu ha hx
    have h4 := hfar.2
    rw [List.pairwise_iff_getElem] at h4
    have h5 := vals_get ps k 3 hk (by omega)
    have h6 : (ps.flatMap RV.vals)[k * 4 + 3]? = some ps[k].vk := by rw [h5]; simp [RV.vals]
    have hlt : k * 4 + 3 < (ps.flatMap RV.vals).length := by rw [hvl]; omega
    rw [List.getElem?_eq_getElem hi] at hu
    rw [List.getElem?_eq_getElem hlt] at h6
    injection hu with hu; injection h6 with h6
    rcases (by omega : i < k * 4 + 3 ∨ k * 4 + 3 < i) with h7 | h7
    · exact h4 i _ hi hlt h7 a (by rw [hu]; exact ha) (by rw [h6]; exact hx)
    · exact h4 _ i hlt hi h7 a (by rw [h6]; exact hx) (by rw [hu]; exact ha)
  have hset := vals_put ps k 3 hk v' ⟨{ ps[k].r with kids := xs }, ps[k].vb, ps[k].vn, ps[k].vt, v'⟩ (by omega) (by simp [RV.vals])
  have hrow2 := h.own.row.keep hg (fun a ha hh => by injection ha with ha; exact hbX a hh ha.symm)
  have hnv : ∀ a, v'.ownBlock = some a → (w.heap.size ≤ a ∧ a ≠ g ∧ a ≠ p ∧ a ≠ R) ∧ a ≠ b := by
    intro a ha
    rcases hb with hb | hb
    · exact ⟨hnk a (hb.symm.trans ha), hbX a (hb.symm.trans ha)⟩
    · rw [hb] at ha; injection ha with ha
      have h1 := h.box.lt; have h2 := h.res.lt; have h3 := h.cur.lt; have h4 := h.grow.size
      exact ⟨⟨by omega, by omega, by omega, by omega⟩, by omega⟩
  have hB2 : Box w2 g #[.slice (some ⟨b, 0, none⟩) ps.length cap] 26 := h.box.moved hg (fun hh => (hnk g hh).2.1 rfl)
  have hR2 : Box w2 R #[.slice none 0 0] 26 := h.res.moved hg (fun hh => (hnk R hh).2.2.2 rfl)
  have hC2 := Cur.kept h.cur hg (fun hh => (hnk p hh).2.2.1 rfl) he
  have hG2 := grown_own h.grow (fun a ha => (hnk a ha).1) hg
  have hrow := (hrow2.stored (k * 8 + 7) v').1
  rw [cells_put ps k 7 hk v' ⟨{ ps[k].r with kids := xs }, ps[k].vb, ps[k].vn, ps[k].vt, v'⟩ (by omega) (by simp [RV.cells])] at hrow
  have hcell : w2.cell? ⟨b, k * 8 + 7, none⟩ = some ps[k].vk := by
    have h0 := hrow2.cellAt (k * 8 + 7) (by omega)
    rw [h0, cells_get ps k 7 hk (by omega)]
    simp [RV.cells]
  refine ⟨⟨hcell, hrow2.frozenAt _, hB2.cell 0⟩, hB2.other hbn.2.1.symm _ v', ⟨by rw [List.length_set]; exact hrow, fun q hq => ?_, ?_⟩, ?_, hC2.set (a := ⟨b, k * 8 + 7, none⟩) hbn.2.2.1 hblk.1 v', grown_new (a := ⟨b, k * 8 + 7, none⟩) hG2 hbn.1 v', h.gw, h.gb, h.gp, hR2.other hbn.2.2.2.symm _ v', h.gR, h.pR⟩
  · have hst : ∀ {α : Type} {f : α → Value} {e : TypeId} {u : Value} {xs : List α}, OwnL f e wb w2 u xs → (∀ a, u.ownBlock = some a → a ≠ b) → OwnL f e wb (w2.setCell ⟨b, k * 8 + 7, none⟩ v') u xs := fun hu hub => hu.keep (grown_set w2 ⟨b, k * 8 + 7, none⟩ v') (fun a ha hh => by injection hh with hh; exact hub a ha hh.symm)
    have hvb : ∀ u ∈ ps.flatMap RV.vals, ∀ a, u.ownBlock = some a → a ≠ b := fun u hu a ha hh => by subst hh; exact hfar.1 u hu a rfl ha
    have key : ∀ i (hi : i < ps.length) (j : Nat), j < 4 → (i ≠ k ∨ j ≠ 3) → ∀ {α : Type} {f : α → Value} {e : TypeId} {u : Value} {xs : List α}, ps[i].vals[j]? = some u → OwnL f e wb W u xs → OwnL f e wb (w2.setCell ⟨b, k * 8 + 7, none⟩ v') u xs := by
      intro i hi j hj hij α f e u xs hu hown
      have hget := vals_get ps i j hi hj
      rw [hu] at hget
      refine hst (hown.keep hg (fun a ha hh => ?_)) (hvb u (List.mem_of_getElem? hget))
      exact hother (i * 4 + j) (by rw [hvl]; omega) (by rcases hij with h1 | h1 <;> omega) u a hget ha hh
    rcases List.getElem_of_mem hq with ⟨i, hi, rfl⟩
    rw [List.length_set] at hi
    rw [List.getElem_set]
    split
    · rename_i e1
      subst e1
      have h0 := h.own.each _ (List.getElem_mem hk)
      exact ⟨key k hk 0 (by omega) (.inr (by omega)) (by simp [RV.vals]) h0.b, key k hk 1 (by omega) (.inr (by omega)) (by simp [RV.vals]) h0.n, key k hk 2 (by omega) (.inr (by omega)) (by simp [RV.vals]) h0.t, hst ho (fun a ha => (hnv a ha).2)⟩
    · rename_i e1
      have h0 := h.own.each _ (List.getElem_mem hi)
      exact ⟨key i hi 0 (by omega) (.inl (fun hh => e1 hh.symm)) (by simp [RV.vals]) h0.b, key i hi 1 (by omega) (.inl (fun hh => e1 hh.symm)) (by simp [RV.vals]) h0.n, key i hi 2 (by omega) (.inl (fun hh => e1 hh.symm)) (by simp [RV.vals]) h0.t, key i hi 3 (by omega) (.inl (fun hh => e1 hh.symm)) (by simp [RV.vals]) h0.k⟩
  · rw [hset]
    have h1 := far_set hfar0 (1 + (k * 4 + 3)) (by simp [hvl]; omega) v' W.heap.size (fun u hu a ha => (hold u hu a ha).2) (by
      have h5 := vals_get ps k 3 hk (by omega)
      have h6 : (Value.slice (some ⟨b, 0, none⟩) ps.length cap :: ps.flatMap RV.vals)[1 + (k * 4 + 3)]? = some ps[k].vk := by
        rw [Nat.add_comm 1, List.getElem?_cons_succ]
        have h7 : ps[k].vals[3]? = some ps[k].vk := by simp [RV.vals]
        exact h5.trans h7
      rw [List.getElem?_eq_getElem (by simp [hvl]; omega)] at h6
      injection h6 with h6
      rw [h6]; exact hb)
    rw [Nat.add_comm 1, List.set_cons_succ] at h1
    exact h1
  · intro u hu a ha
    rw [hset] at hu
    rcases List.mem_cons.1 hu with rfl | hu
    · exact h.new _ (List.mem_cons_self ..) a ha
    · rcases mem_set_vals hu with h1 | rfl
      · exact h.new u (List.mem_cons_of_mem _ h1) a ha
      · exact (hnv a ha).1
end Go.Proofs.Ytophjmphjdhjoaa

/- A region that draws its order: loads are taken first under conditions that hold only up to the operations that wait for them. -/
namespace Go.Proofs.Ytophjmphjdhjoaa
open Go.RowKit Go.Sort

section
variable {P : Program} {ops : Array Oper} {Q : Exit → Act → World → Prop} {md : Region.Mode} {C : Nat → World → Prop} {S : World → Prop}

/-- whatever order is picked from here on, and C i holds behind operation i -/
def wpAnyC (P : Program) (md : Region.Mode) (ops : Array Oper) (Q : Exit → Act → World → Prop) (C : Nat → World → Prop) : Nat → Array Bool → Act → World → Prop
  | 0, listed, a, w => Region.ready md ops listed = [] ∧ Q .normal a w
  | fuel + 1, listed, a, w =>
    (Region.ready md ops listed = [] → Q .normal a w) ∧
    ∀ i ∈ Region.ready md ops listed, wpOp P ops Q i (fun a' w' => C i w' ∧ wpAnyC P md ops Q C fuel (listed.setIfInBounds i true) a' w') a w
theorem wpAny_of_C : ∀ (fuel : Nat) (listed : Array Bool) (a : Act) (w : World), wpAnyC P md ops Q C fuel listed a w → wpAny P md ops Q fuel listed a w
  | 0, _, _, _, h => h
  | fuel + 1, _, _, _, h => ⟨h.1, fun i hi => wpOp_mono (fun a' w' h' => wpAny_of_C fuel _ a' w' h'.2) (h.2 i hi)⟩
/-- does operation j wait for operation i, straight or over others -/
def depOn (md : Region.Mode) (ops : Array Oper) : Nat → Nat → Nat → Bool
  | 0, _, _ => false
  | n + 1, j, i => match ops[j]? with
    | some o => o.after.any (fun e => Region.binds md e && e.on == i) || o.after.any (fun e => Region.binds md e && depOn md ops n e.on i)
    | none => false
def Down (md : Region.Mode) (ops : Array Oper) (listed : Array Bool) : Prop := ∀ k o, ops[k]? = some o → listed.getD k false = true → ∀ e ∈ o.after, Region.binds md e = true → listed.getD e.on false = true
theorem dep_listed {listed : Array Bool} (hd : Down md ops listed) {i : Nat} : ∀ (n j : Nat) (o : Oper), ops[j]? = some o → (∀ e ∈ o.after, Region.binds md e = true → listed.getD e.on false = true) → depOn md ops n j i = true → listed.getD i false = true := by
  intro n
  induction n with
  | zero => intro j o _ _ h; cases h
  | succ n ih =>
    intro j o ho hall h
    unfold depOn at h
    rw [ho] at h
    simp only [Bool.or_eq_true, Array.any_eq_true, Bool.and_eq_true, beq_iff_eq] at h
    rcases h with ⟨k, hk, hb, he⟩ | ⟨k, hk, hb, he⟩
    · rw [← he]; exact hall _ (Array.getElem_mem hk) hb
    · have h1 := hall _ (Array.getElem_mem hk) hb
      cases h2 : ops[o.after[k].on]? with
      | none => cases n with
        | zero => cases he
        | succ n => unfold depOn at he; rw [h2] at he; cases he
      | some o2 => exact ih _ o2 h2 (hd _ o2 h2 h1) he
theorem getD_false_of {listed : Array Bool} {i : Nat} (h : listed.getD i true = false) : listed.getD i false = false := by
  rcases Nat.lt_or_ge i listed.size with h' | h'
  · simp [h'] at h ⊢; exact h
  · simp [h'] at h
theorem Down.set {listed : Array Bool} (hd : Down md ops listed) {j : Nat} (hj : j ∈ Region.ready md ops listed) : Down md ops (listed.setIfInBounds j true) := by
  intro k o ho hk e he hb
  obtain ⟨_, oj, hoj, hall⟩ := mem_ready.1 hj
  by_cases hkj : j = k
  · subst hkj
    rw [hoj] at ho; injection ho with ho; subst ho
    exact getD_set_true (hall e he hb)
  · rw [getD_set_ne false hkj] at hk
    exact getD_set_true (hd k o ho hk e he hb)
theorem wpAnyC_first {i : Nat} {oi : Oper} {v : Value} (hi : ops[i]? = some oi) (hsel : ∀ (j : Nat) (o : Oper) cs b, ops[j]? = some o → o.op ≠ .select cs b)
    (hQ : ∀ c a w, Q (.panic c) (a.put oi.dst v) w → Q (.panic c) a w) (n : Nat) (hCi : ∀ w', S w' → C i w') :
    ∀ (fuel : Nat) (listed : Array Bool) (a : Act) (w : World), Down md ops listed →
      (∀ j oj, ops[j]? = some oj → j ≠ i → listed.getD j true = false → (∀ e ∈ oj.after, Region.binds md e = true → e.on ≠ i) → oi.apart ops oj = true) →
      (∀ j oj, ops[j]? = some oj → listed.getD j true = false → j ≠ i → depOn md ops n j i = false → ∀ w', C j w' → S w') →
      i ∈ Region.ready md ops listed → YieldsIf P ops S oi v a → S w →
      wpAnyC P md ops Q C fuel (listed.setIfInBounds i true) (a.put oi.dst v) w → wpAnyC P md ops Q C (fuel + 1) listed a w := by
  intro fuel
  induction fuel with
  | zero =>
    intro listed a w _ _ _ hr hy hS H
    refine ⟨fun h => (by rw [h] at hr; cases hr), fun j hj => ?_⟩
    by_cases hji : j = i
    · subst hji; exact hy.wpOp hi hS ⟨hCi w hS, H⟩
    · have := ready_mono hj hji
      rw [H.1] at this
      cases this
  | succ fuel ih =>
    intro listed a w hd hfree hC hr hy hS H
    refine ⟨fun h => (by rw [h] at hr; cases hr), fun j hj => ?_⟩
    by_cases hji : j = i
    · subst hji; exact hy.wpOp hi hS ⟨hCi w hS, H⟩
    · have h1 := H.2 j (ready_mono hj hji)
      obtain ⟨hjun, oj, hoj, hall⟩ := mem_ready.1 hj
      have hiun := getD_false_of (mem_ready.1 hr).1
      have hnot : ∀ e ∈ oj.after, Region.binds md e = true → e.on ≠ i := fun e he hb heq => by
        have h1 := hall e he hb
        rw [heq, hiun] at h1; cases h1
      have hnd : depOn md ops n j i = false := by
        rw [Bool.eq_false_iff]
        intro hh
        have := dep_listed hd n j oj hoj hall hh
        rw [hiun] at this; cases this
      have h2 := wpOp_putIf hoj (hfree j oj hoj hji hjun hnot) (fun cs b => hsel i oi cs b hi) (fun cs b => hsel j oj cs b hoj) hQ hy h1
      have hfree' : ∀ k ok, ops[k]? = some ok → k ≠ i → (listed.setIfInBounds j true).getD k true = false →
          (∀ e ∈ ok.after, Region.binds md e = true → e.on ≠ i) → oi.apart ops ok = true := fun k ok hk hki hun hno => by
        refine hfree k ok hk hki ?_ hno
        by_cases hjk : j = k
        · subst hjk; exact hjun
        · rw [getD_set_ne true hjk] at hun; exact hun
      have hC' : ∀ k ok, ops[k]? = some ok → (listed.setIfInBounds j true).getD k true = false → k ≠ i → depOn md ops n k i = false → ∀ w', C k w' → S w' := fun k ok hk hun hki hno => by
        refine hC k ok hk ?_ hki hno
        by_cases hjk : j = k
        · subst hjk; exact hjun
        · rw [getD_set_ne true hjk] at hun; exact hun
      refine wpOp_mono (fun a' w' h3 => ⟨h3.2.1, ih (listed.setIfInBounds j true) a' w' (hd.set hj) hfree' hC' (ready_mono hr (Ne.symm hji)) h3.1 (hC j oj hoj hjun hji hnd w' h3.2.1) ?_⟩) h2
      rw [Array.setIfInBounds_comm _ _ hji]
      exact h3.2.2
def downB (md : Region.Mode) (ops : Array Oper) (listed : Array Bool) : Bool := (List.range ops.size).all fun k => !listed.getD k false || ((ops[k]?).map fun o => o.after.all fun e => !Region.binds md e || listed.getD e.on false).getD true
theorem downB_spec {listed : Array Bool} (h : downB md ops listed = true) : Down md ops listed := by
  intro k o ho hk e he hb
  have hlt : k < ops.size := (Array.getElem?_eq_some_iff.1 ho).1
  have h1 := List.all_eq_true.1 h k (List.mem_range.2 hlt)
  rw [hk, ho] at h1
  simp only [Bool.not_true, Bool.false_or, Option.map_some, Option.getD_some, Array.all_eq_true_iff_forall_mem] at h1
  have h2 := h1 e he
  rw [hb] at h2
  simpa using h2
/-- operation i may be taken under level t -/
def takeB (md : Region.Mode) (ops : Array Oper) (listed : Array Bool) (c : List Nat) (i t : Nat) : Bool :=
  decide (c.getD i 0 ≤ t) && (List.range ops.size).all fun j => listed.getD j true || j == i || depOn md ops 12 j i || decide (t ≤ c.getD j 0)
/-- take operation i first: under the level t of conditions -/
theorem wpAnyC_take {Lv : Nat → World → Prop} {c : List Nat} (t : Nat) {i : Nat} {oi : Oper} {v : Value} {fuel : Nat} {listed : Array Bool} {a : Act} {w : World} (hmono : ∀ a b w, a ≤ b → Lv b w → Lv a w) (hi : ops[i]? = some oi)
    (hs : Region.noSelect ops = true) (hf : Region.free md ops listed i = true) (hr : (Region.ready md ops listed).contains i = true) (hd : downB md ops listed = true) (ht : takeB md ops listed c i t = true)
    (hQ : ∀ c a w, Q (.panic c) (a.put oi.dst v) w → Q (.panic c) a w) (hS : Lv t w) (hy : YieldsIf P ops (Lv t) oi v a)
    (h : wpAnyC P md ops Q (fun j => Lv (c.getD j 0)) fuel (listed.setIfInBounds i true) (a.put oi.dst v) w) : wpAnyC P md ops Q (fun j => Lv (c.getD j 0)) (fuel + 1) listed a w := by
  unfold takeB at ht
  rw [Bool.and_eq_true, decide_eq_true_eq] at ht
  refine wpAnyC_first (S := Lv t) (C := fun j => Lv (c.getD j 0)) hi (Region.noSelect_spec hs) hQ 12 (fun w' h' => hmono _ _ w' ht.1 h') fuel listed a w (downB_spec hd) (Region.free_spec hi hf) (fun j oj hoj hj hji hdj w' hc => ?_) (by simpa using hr) hy hS h
  have hlt : j < ops.size := (Array.getElem?_eq_some_iff.1 hoj).1
  have h1 := List.all_eq_true.1 ht.2 j (List.mem_range.2 hlt)
  rw [hj, hdj] at h1
  simp only [Bool.false_or, Bool.or_false, Bool.or_eq_true, beq_iff_eq, decide_eq_true_eq] at h1
  rcases h1 with h1 | h1
  · exact absurd h1 hji
  · exact hmono _ _ w' h1 hc
/-- one operation alone may come up -/
theorem wpAnyC_one {i : Nat} {o : Oper} {fuel : Nat} {listed : Array Bool} {a : Act} {w : World} (hr : Region.ready md ops listed = [i]) (ho : ops[i]? = some o)
    (h : ∀ K : Act → World → Prop, Shut (∀ a w, C i w → wpAnyC P md ops Q C fuel (listed.setIfInBounds i true) a w → K a w) → if Region.wanted o (yielded ops a.tmps) = true then Oper.wp P o a w K Q else K (a.put o.dst undef) w) : wpAnyC P md ops Q C (fuel + 1) listed a w := by
  refine ⟨fun h0 => (by rw [hr] at h0; cases h0), fun j hj => ?_⟩
  rw [hr, List.mem_singleton] at hj
  subst hj
  exact wpOp_step ho (fun K' hK => h K' (fun a w hC hW => hK a w ⟨hC, hW⟩))
theorem wpAnyC_done {listed : Array Bool} {a : Act} {w : World} (hr : Region.ready md ops listed = []) (h : Q .normal a w) : ∀ fuel, wpAnyC P md ops Q C fuel listed a w
  | 0 => ⟨hr, h⟩
  | _ + 1 => ⟨fun _ => h, by rw [hr]; simp⟩
theorem wp_region_C {id : Nat} {a : Act} {w : World} (hm : P.follows .mixedOrders = true)
    (h : wpAnyC P .any ops Q C ops.size (Array.replicate ops.size false) a w.drew) : (Code.region id ops true).wp P Q a w :=
  wp_region_any hm (wpAny_of_C _ _ _ _ h)
end
/-- levels of conditions: nothing, A, A and B -/
def lv2 (A B : World → Prop) : Nat → World → Prop
  | 0, _ => True
  | 1, w => A w
  | _ + 2, w => A w ∧ B w
theorem lv2_mono (A B : World → Prop) : ∀ a b w, a ≤ b → lv2 A B b w → lv2 A B a w
  | 0, _, _, _, _ => trivial
  | 1, 1, _, _, h => h
  | 1, _ + 2, _, _, h => h.1
  | _ + 2, _ + 2, _, _, h => h
end Go.Proofs.Ytophjmphjdhjoaa

/- Draws of descriptions: l4Any (one change, or none). (Printed by gen/gx25.py.) -/
namespace Go.Proofs.Ytophjmphjdhjoaa
open Go.RowKit Go.Sort

theorem l1IntBox_c (ns : List Int) (hns : 0 < ns.length) (hns2 : ns.length ≤ 256) (n : Nat) (hn : n = ns.length) (cs : Array Value) (hcs : cs = (ns.map vint).toArray) (wb w : World) (p : Nat) (A : Option Addr) (l : List UInt8) (c : Nat) (hA : Bs wb A l c) (b : Nat) (hC : Cur wb w p A l c) (hb : Box w b cs 3) :
    Calls Try.prog 38 #[.pointer (some ⟨p, 0, none⟩), .slice (some ⟨b, 0, none⟩) n n] w fun e w' => ∃ x ∈ ns, e = .returned (.int .i64 x) ∧ Cur wb w' p A l c ∧ w.grownBy w' (some p) := by
  subst hn; subst hcs
  have hbp : p ≠ b := by
    rintro rfl
    obtain ⟨_, _, i, x, _, h4⟩ := hC
    have h5 : w.heap[p]? = _ := hb
    rw [h5] at h4
    injection h4 with h4
    injection h4 with _ h7
    exact absurd h7 (by decide)
  refine (l1Int_c (some ⟨b, 0, none⟩) ns ns.length hns hns2 wb _ p A l c hA hC ?_).mono ?_
  · intro w' hg i hi
    refine ⟨b, 0, rfl, ?_⟩
    rw [(hb.moved hg (some_ne hbp)).cell (0 + i), Nat.zero_add]
    simp [vint, hi]
  · rintro e w' ⟨x, hx, he, hC1, hg⟩
    exact ⟨x, hx, he, hC1, hg⟩
theorem DS.put' {wb w wr : World} {p : Nat} {A : Option Addr} {l : List UInt8} {c g b n cap : Nat} {ps : List RV} {R : Nat} (h : DS wb w wr p A l c g (.slice (some ⟨b, 0, none⟩) n cap) ps R) (k j : Nat) (hk : k < ps.length) (hj : j < 4) {q : RV} (hq : ps[k] = q) (u : Value) (p' : RV) (hc : p'.cells = q.cells.set j u) (hv : p'.vals = q.vals)
    (hr : p'.r.bytes = q.r.bytes ∧ p'.r.names = q.r.names ∧ p'.r.tags = q.r.tags ∧ p'.r.kids = q.r.kids) :
    (wr.cell? ⟨b, k * 8 + j, none⟩ = q.cells[j]? ∧ wr.frozen? ⟨b, k * 8 + j, none⟩ = false) ∧ DS wb w (wr.setCell ⟨b, k * 8 + j, none⟩ u) p A l c g (.slice (some ⟨b, 0, none⟩) n cap) (ps.set k p') R := by
  subst hq; exact h.put k j hk hj u p' hc hv hr
theorem DS.cellr {wb w wr : World} {p : Nat} {A : Option Addr} {l : List UInt8} {c g b n cap : Nat} {ps : List RV} {R : Nat} (h : DS wb w wr p A l c g (.slice (some ⟨b, 0, none⟩) n cap) ps R) (k j : Nat) (hk : k < ps.length) (hj : j < 8) {q : RV} (hq : ps[k] = q) : wr.cell? ⟨b, k * 8 + j, none⟩ = q.cells[j]? := by
  subst hq
  have hn : n = ps.length := by obtain ⟨_, _, hh⟩ := h.own.shape; injection hh
  subst hn
  have h0 := h.own.row.cellAt (k * 8 + j) (by omega)
  rw [h0, cells_get ps k j hk hj]
theorem DS.rule {wb w wr : World} {p : Nat} {A : Option Addr} {l : List UInt8} {c g : Nat} {v : Value} {ps : List RV} {R : Nat} (h : DS wb w wr p A l c g v ps R) (k : Nat) (hk : k < ps.length) {q : RV} (hq : ps[k] = q) : RuleOwn wb wr q := hq ▸ h.own.each _ (List.getElem_mem hk)
theorem Box.newd' (w : World) (cs : Array Value) (T : TypeId) (n : Nat) (hn : n = w.heap.size) : Box (w.alloc (.cells cs T)).drew n cs T := by subst hn; exact (Box.new w cs T).ext (Ext_drew (Ext.refl _))
theorem Box.new' (w : World) (cs : Array Value) (T : TypeId) (n : Nat) (hn : n = w.heap.size) : Box (w.alloc (.cells cs T)) n cs T := by subst hn; exact Box.new w cs T
theorem DS.app_b' {wb w W w2 : World} {p : Nat} {A : Option Addr} {l : List UInt8} {c g b n cap : Nat} {ps : List RV} {R : Nat} (h : DS wb w W p A l c g (.slice (some ⟨b, 0, none⟩) n cap) ps R) (k : Nat) (hk : k < ps.length) {q : RV} (hq : ps[k] = q) {v' : Value} {xs : List UInt8} (ho : OwnL vu8 5 wb w2 v' xs) (he : Ext wb w2)
    (hb : v'.ownBlock = q.vb.ownBlock ∨ v'.ownBlock = some W.heap.size) (hg : W.grownBy w2 q.vb.ownBlock) :
    (w2.cell? ⟨b, k * 8 + 4, none⟩ = some q.vb ∧ w2.frozen? ⟨b, k * 8 + 4, none⟩ = false ∧ w2.cell? ⟨g, 0, none⟩ = some (.slice (some ⟨b, 0, none⟩) n cap)) ∧ DS wb w (w2.setCell ⟨b, k * 8 + 4, none⟩ v') p A l c g (.slice (some ⟨b, 0, none⟩) n cap) (ps.set k ⟨{ q.r with bytes := xs }, v', q.vn, q.vt, q.vk⟩) R := by
  subst hq; exact h.app_b k hk ho he hb hg
theorem DS.app_n' {wb w W w2 : World} {p : Nat} {A : Option Addr} {l : List UInt8} {c g b n cap : Nat} {ps : List RV} {R : Nat} (h : DS wb w W p A l c g (.slice (some ⟨b, 0, none⟩) n cap) ps R) (k : Nat) (hk : k < ps.length) {q : RV} (hq : ps[k] = q) {v' : Value} {xs : List ByteArray} (ho : OwnL vstr 9 wb w2 v' xs) (he : Ext wb w2)
    (hb : v'.ownBlock = q.vn.ownBlock ∨ v'.ownBlock = some W.heap.size) (hg : W.grownBy w2 q.vn.ownBlock) :
    (w2.cell? ⟨b, k * 8 + 5, none⟩ = some q.vn ∧ w2.frozen? ⟨b, k * 8 + 5, none⟩ = false ∧ w2.cell? ⟨g, 0, none⟩ = some (.slice (some ⟨b, 0, none⟩) n cap)) ∧ DS wb w (w2.setCell ⟨b, k * 8 + 5, none⟩ v') p A l c g (.slice (some ⟨b, 0, none⟩) n cap) (ps.set k ⟨{ q.r with names := xs }, q.vb, v', q.vt, q.vk⟩) R := by
  subst hq; exact h.app_n k hk ho he hb hg
theorem DS.app_t' {wb w W w2 : World} {p : Nat} {A : Option Addr} {l : List UInt8} {c g b n cap : Nat} {ps : List RV} {R : Nat} (h : DS wb w W p A l c g (.slice (some ⟨b, 0, none⟩) n cap) ps R) (k : Nat) (hk : k < ps.length) {q : RV} (hq : ps[k] = q) {v' : Value} {xs : List Int} (ho : OwnL vint 3 wb w2 v' xs) (he : Ext wb w2)
    (hb : v'.ownBlock = q.vt.ownBlock ∨ v'.ownBlock = some W.heap.size) (hg : W.grownBy w2 q.vt.ownBlock) :
    (w2.cell? ⟨b, k * 8 + 6, none⟩ = some q.vt ∧ w2.frozen? ⟨b, k * 8 + 6, none⟩ = false ∧ w2.cell? ⟨g, 0, none⟩ = some (.slice (some ⟨b, 0, none⟩) n cap)) ∧ DS wb w (w2.setCell ⟨b, k * 8 + 6, none⟩ v') p A l c g (.slice (some ⟨b, 0, none⟩) n cap) (ps.set k ⟨{ q.r with tags := xs }, q.vb, q.vn, v', q.vk⟩) R := by
  subst hq; exact h.app_t k hk ho he hb hg
theorem DS.app_k' {wb w W w2 : World} {p : Nat} {A : Option Addr} {l : List UInt8} {c g b n cap : Nat} {ps : List RV} {R : Nat} (h : DS wb w W p A l c g (.slice (some ⟨b, 0, none⟩) n cap) ps R) (k : Nat) (hk : k < ps.length) {q : RV} (hq : ps[k] = q) {v' : Value} {xs : List Int} (ho : OwnL vint 3 wb w2 v' xs) (he : Ext wb w2)
    (hb : v'.ownBlock = q.vk.ownBlock ∨ v'.ownBlock = some W.heap.size) (hg : W.grownBy w2 q.vk.ownBlock) :
    (w2.cell? ⟨b, k * 8 + 7, none⟩ = some q.vk ∧ w2.frozen? ⟨b, k * 8 + 7, none⟩ = false ∧ w2.cell? ⟨g, 0, none⟩ = some (.slice (some ⟨b, 0, none⟩) n cap)) ∧ DS wb w (w2.setCell ⟨b, k * 8 + 7, none⟩ v') p A l c g (.slice (some ⟨b, 0, none⟩) n cap) (ps.set k ⟨{ q.r with kids := xs }, q.vb, q.vn, q.vt, v'⟩) R := by
  subst hq; exact h.app_k k hk ho he hb hg
/-- what a drawn description is, changed or not -/
structure AnyV (wb w w' : World) (v : Value) (ps : List RV) : Prop where
  small : SmD (rulesOf ps)
  own : OwnD wb w' v ps
  new : ∀ u ∈ v :: ps.flatMap RV.vals, ∀ b, u.ownBlock = some b → w.heap.size ≤ b
theorem SmD_set {ps : List RV} {k : Nat} {p' : RV} (h : SmD (rulesOf ps)) (hp : SmR p'.r) : SmD (rulesOf (ps.set k p')) := by
  refine ⟨by have := h.1; simpa [rulesOf] using this, fun r hr => ?_⟩
  obtain ⟨q, hq, rfl⟩ := List.mem_map.1 hr
  rcases List.mem_or_eq_of_mem_set hq with h1 | rfl
  · exact h.2 _ (List.mem_map_of_mem h1)
  · exact hp
theorem MadeD.sm {ps : List RV} (h : MadeD (rulesOf ps)) (hs : SmallD (rulesOf ps)) : SmD (rulesOf ps) := ⟨hs.1, fun r hr => (hs.2 r hr).sm (by
  obtain ⟨i, hi, rfl⟩ := List.getElem_of_mem hr
  have := (h i hi).ok
  unfold kindOk at this
  by_cases h1 : (rulesOf ps)[i].kind = 1; · omega
  by_cases h2 : (rulesOf ps)[i].kind = 2; · omega
  by_cases h3 : (rulesOf ps)[i].kind = 3; · omega
  by_cases h4 : (rulesOf ps)[i].kind = 4; · omega
  by_cases h5 : (rulesOf ps)[i].kind = 5; · omega
  by_cases h6 : (rulesOf ps)[i].kind = 6; · omega
  by_cases h7 : (rulesOf ps)[i].kind = 7; · omega
  by_cases h8 : (rulesOf ps)[i].kind = 8; · omega
  by_cases h9 : (rulesOf ps)[i].kind = 9; · omega
  by_cases h10 : (rulesOf ps)[i].kind = 10; · omega
  simp [h1, h2, h3, h4, h5, h6, h7, h8, h9, h10] at this)⟩
theorem DS.finish {wb w wr : World} {p : Nat} {A : Option Addr} {l : List UInt8} {c g : Nat} {v : Value} {ps : List RV} (h : DS wb w wr p A l c g v ps w.heap.size) (hbw : wb.heap.size ≤ w.heap.size) :
    OwnD wb (wr.setCell ⟨w.heap.size, 0, none⟩ v) v ps ∧ (∀ u ∈ v :: ps.flatMap RV.vals, ∀ b, u.ownBlock = some b → w.heap.size ≤ b) ∧ Cur wb (wr.setCell ⟨w.heap.size, 0, none⟩ v) p A l c ∧ w.grownBy (wr.setCell ⟨w.heap.size, 0, none⟩ v) (some p) :=
  ⟨h.own.keep (grown_set wr ⟨w.heap.size, 0, none⟩ _) (fun u hu b hb hh => by injection hh with hh; exact (h.new u hu b hb).2.2.2 hh.symm), fun u hu b hb => (h.new u hu b hb).1, h.cur.set (a := ⟨w.heap.size, 0, none⟩) (fun hh => h.pR hh.symm) hbw _, grown_new (a := ⟨w.heap.size, 0, none⟩) h.grow (Nat.le_refl _) _⟩
set_option maxRecDepth 100000 in
set_option maxHeartbeats 16000000 in
theorem l4Any_c (wb w : World) (p : Nat) (A : Option Addr) (l : List UInt8) (c : Nat) (hA : Bs wb A l c) (hC : Cur wb w p A l c) :
    Calls Try.prog 40 #[.pointer (some ⟨p, 0, none⟩)] w fun e w' => ∃ v ps, e = .returned (vdesc v) ∧ AnyV wb w w' v ps ∧ ps.length ≤ 6 ∧ Cur wb w' p A l c ∧ w.grownBy w' (some p) := by
  have hplt := hC.lt
  have hbw := hC.2.1.size
  have CBe := Lib.hid (fun n w h hn => l1Below_c n wb w p A l c hA h hn)
  have CD := Lib.hid (fun w h => l4Description_c wb w p A l c hA h)
  unfold vdesc at CD
  have e0 := Ext_alloc (.cells #[.slice none 0 0] 26) (Ext.refl w)
  have HR := Lib.hid (Box.new w #[.slice none 0 0] 26)
  go_enter Try.func40, Try.ntmps40
  go_wp2_with fail
  refine (CD.out _ (hC.ext e0)).mono ?_; rintro _ w1 ⟨v, ps, rfl, hV, hps6, hC1, hg1⟩
  have hp0 : 0 < ps.length := by obtain ⟨h, _⟩ := hV.first; simpa [rulesOf] using h
  obtain ⟨b, cap, hv⟩ : ∃ b cap, v = .slice (some ⟨b, 0, none⟩) ps.length cap := by
    rcases hV.own.row.2 with ⟨_, h0⟩ | ⟨g, cap, cur, hv, _⟩
    · omega
    · exact ⟨g, cap, hv⟩
  subst hv
  have G1 := (grown_ext e0 (some p)).trans hg1
  have x1 := Ext_alloc (.cells #[.slice (some ⟨b, 0, none⟩) ps.length cap] 26) (Ext.refl w1)
  have hR1 := HR.out.moved hg1 (some_ne (by omega))
  have hRl := hR1.lt
  have hpl := hC1.lt
  have S1 : Hid (DS wb w (w1.alloc (.cells #[.slice (some ⟨b, 0, none⟩) ps.length cap] 26)) p A l c w1.heap.size (.slice (some ⟨b, 0, none⟩) ps.length cap) ps w.heap.size) :=
    ⟨Box.new w1 _ _, hV.own.ext x1, fun u hu b hb => by
      have h1 := hV.new u hu b hb
      rw [World.size_alloc] at h1
      have h2 := (hV.own.block u hu b hb).2
      exact ⟨by omega, by omega, by omega, by omega⟩, hC1.ext x1, G1.trans (grown_ext x1 _), by omega, by have := hC1.2.1.size; omega, by omega, hR1.ext x1, by omega, by omega⟩
  have HSM := Lib.hid (hV.made.sm hV.small)
  have HSML := Lib.hid hV.small
  have cd0 : _ = some (Value.slice (some ⟨b, 0, none⟩) ps.length cap) := S1.out.box.cell 0
  clear hV hC1 hg1 G1 x1 hR1 HR e0 CD
  go_wp2_with fail
  refine (CBe.out ps.length _ S1.out.cur (by omega)).mono ?_; rintro _ w2 ⟨k, hk0, rfl, hC2, hg2⟩
  have hk : k < ps.length := by unfold below at hk0; rw [if_neg (by omega)] at hk0; omega
  have S2 := Lib.hid (S1.out.moved hC2 hg2)
  clear hk0 hC2 hg2 S1 cd0
  generalize w1.heap.size = g at *
  go_wp2_with fail
  refine (CBe.out 16 _ S2.out.cur (by omega)).mono ?_; rintro _ w3 ⟨y, hy, rfl, hC3, hg3⟩
  have S3 := Lib.hid (S2.out.moved hC3 hg3)
  clear hy hC3 hg3 S2
  have cd0 : _ = some (Value.slice (some ⟨b, 0, none⟩) ps.length cap) := S3.out.box.cell 0
  obtain ⟨q, hq⟩ : ∃ q, ps[k] = q := ⟨_, rfl⟩
  have hsr : SmR q.r := hq ▸ HSM.out.2 _ (List.mem_map_of_mem (List.getElem_mem hk))
  have hsl : SmallR q.r := hq ▸ HSML.out.2 _ (List.mem_map_of_mem (List.getElem_mem hk))
  have HRO := S3.out.rule k hk hq
  obtain ⟨r, vb, vn, vt, vk⟩ := q
  obtain ⟨Ab, cb, An, cn, At, ct, Ak, ck, hs1, hs2, hs3, hs4, _⟩ := HRO.rd hsr.short
  dsimp only at hs1 hs2 hs3 hs4 hsr hsl
  subst hs1; subst hs2; subst hs3; subst hs4
  have HQ := Lib.hid hq
  have HSR := Lib.hid hsr
  have HSL := Lib.hid hsl
  have b1 : (k : Int) < (ps.length : Int) := by omega
  have b0 : (0 : Int) ≤ (k : Int) := by omega
  have b2 : (0 : Int) < (ps.length : Int) := by omega
  have SX := Lib.hid (S3.out.ext (Ext_drew (Ext.refl w3)))
  clear hq hsr hsl HRO hRl hpl
  rcases (by omega : y = 0 ∨ y = 1 ∨ y = 2 ∨ y = 3 ∨ y = 4 ∨ y = 5 ∨ y = 6 ∨ y = 7 ∨ y = 8 ∨ 9 ≤ y) with rfl | rfl | rfl | rfl | rfl | rfl | rfl | rfl | rfl | hy9
  · obtain ⟨n0, hn0⟩ : ∃ n0, ps[0].r.nm = n0 := ⟨_, rfl⟩
    have hc00 : w3.cell? ⟨b, 0, none⟩ = some (.string n0) := by
      have h1 := S3.out.cellr 0 0 hp0 (by omega) rfl
      rw [← hn0]
      simpa [RV.cells] using h1
    have HN0 : Hid (n0.size ≤ 60) := by show _ ≤ _; rw [← hn0]; exact (HSM.out.2 _ (List.mem_map_of_mem (List.getElem_mem hp0))).nm
    clear hn0
    have cl1 : _ = some (Value.slice (some ⟨b, 0, none⟩) ps.length cap) := (S3.out.ext (Ext_drew (Ext_alloc (.cells #[.string ⟨#[]⟩, .string ⟨#[65]⟩, .string n0, .string ⟨#[118, 101, 114, 121, 108, 111, 110, 103, 110, 97, 109, 101, 105, 110, 100, 101, 101, 100]⟩] 9) (Ext.refl w3)))).box.cell 0
    go_wp2_with fail
    go_region_law (first
      | (go_simp; go_at_call 26; refine (l1StrBox_c [⟨#[]⟩, ⟨#[65]⟩, n0, ⟨#[118, 101, 114, 121, 108, 111, 110, 103, 110, 97, 109, 101, 105, 110, 100, 101, 101, 100]⟩] (by simp) (by simp) 4 rfl #[.string ⟨#[]⟩, .string ⟨#[65]⟩, .string n0, .string ⟨#[118, 101, 114, 121, 108, 111, 110, 103, 110, 97, 109, 101, 105, 110, 100, 101, 101, 100]⟩] rfl wb _ p A l c hA _ ((S3.out.ext (Ext_drew (Ext_alloc (.cells #[.string ⟨#[]⟩, .string ⟨#[65]⟩, .string n0, .string ⟨#[118, 101, 114, 121, 108, 111, 110, 103, 110, 97, 109, 101, 105, 110, 100, 101, 101, 100]⟩] 9) (Ext.refl w3))))).cur (Box.newd' _ _ _ _ rfl)).mono ?_; rintro _ w5 ⟨x, hx, rfl, hC5, hg5⟩; have S5 := Lib.hid (DS.moved (S3.out.ext (Ext_drew (Ext_alloc (.cells #[.string ⟨#[]⟩, .string ⟨#[65]⟩, .string n0, .string ⟨#[118, 101, 114, 121, 108, 111, 110, 103, 110, 97, 109, 101, 105, 110, 100, 101, 101, 100]⟩] 9) (Ext.refl w3)))) hC5 hg5); have c5 : _ = some (Value.slice (some ⟨b, 0, none⟩) ps.length cap) := S5.out.box.cell 0; have HX := Lib.hid hx; clear hx; have PT := S5.out.put' k 0 hk (by omega) HQ.out (.string x) ⟨{ r with nm := x }, .slice Ab r.bytes.length cb, .slice An r.names.length cn, .slice At r.tags.length ct, .slice Ak r.kids.length ck⟩ rfl rfl ⟨rfl, rfl, rfl, rfl⟩; have z5 : w5.cell? ⟨b, k * 8, none⟩ = some (Value.string r.nm) := PT.1.1; have y5 : w5.frozen? ⟨b, k * 8, none⟩ = false := PT.1.2; have M7 : Hid (DS wb w (w5.setCell ⟨b, k * 8, none⟩ (.string x)) p A l c g (Value.slice (some ⟨b, 0, none⟩) ps.length cap) (ps.set k ⟨{ r with nm := x }, .slice Ab r.bytes.length cb, .slice An r.names.length cn, .slice At r.tags.length ct, .slice Ak r.kids.length ck⟩) w.heap.size) := PT.2; clear PT S5 hC5 hg5)
      | (go_simp; go_at_call 26; refine (l1StrBox_c [⟨#[]⟩, ⟨#[65]⟩, n0, ⟨#[118, 101, 114, 121, 108, 111, 110, 103, 110, 97, 109, 101, 105, 110, 100, 101, 101, 100]⟩] (by simp) (by simp) 4 rfl #[.string ⟨#[]⟩, .string ⟨#[65]⟩, .string n0, .string ⟨#[118, 101, 114, 121, 108, 111, 110, 103, 110, 97, 109, 101, 105, 110, 100, 101, 101, 100]⟩] rfl wb _ p A l c hA _ ((SX.out.ext (Ext_alloc (.cells #[.string ⟨#[]⟩, .string ⟨#[65]⟩, .string n0, .string ⟨#[118, 101, 114, 121, 108, 111, 110, 103, 110, 97, 109, 101, 105, 110, 100, 101, 101, 100]⟩] 9) (Ext.refl _)))).cur (Box.new' _ _ _ _ rfl)).mono ?_; rintro _ w5 ⟨x, hx, rfl, hC5, hg5⟩; have S5 := Lib.hid (DS.moved (SX.out.ext (Ext_alloc (.cells #[.string ⟨#[]⟩, .string ⟨#[65]⟩, .string n0, .string ⟨#[118, 101, 114, 121, 108, 111, 110, 103, 110, 97, 109, 101, 105, 110, 100, 101, 101, 100]⟩] 9) (Ext.refl _))) hC5 hg5); have c5 : _ = some (Value.slice (some ⟨b, 0, none⟩) ps.length cap) := S5.out.box.cell 0; have HX := Lib.hid hx; clear hx; have PT := S5.out.put' k 0 hk (by omega) HQ.out (.string x) ⟨{ r with nm := x }, .slice Ab r.bytes.length cb, .slice An r.names.length cn, .slice At r.tags.length ct, .slice Ak r.kids.length ck⟩ rfl rfl ⟨rfl, rfl, rfl, rfl⟩; have z5 : w5.cell? ⟨b, k * 8, none⟩ = some (Value.string r.nm) := PT.1.1; have y5 : w5.frozen? ⟨b, k * 8, none⟩ = false := PT.1.2; have M7 : Hid (DS wb w (w5.setCell ⟨b, k * 8, none⟩ (.string x)) p A l c g (Value.slice (some ⟨b, 0, none⟩) ps.length cap) (ps.set k ⟨{ r with nm := x }, .slice Ab r.bytes.length cb, .slice An r.names.length cn, .slice At r.tags.length ct, .slice Ak r.kids.length ck⟩) w.heap.size) := PT.2; clear PT S5 hC5 hg5))
    all_goals
      have cg : _ = some (Value.slice (some ⟨b, 0, none⟩) ps.length cap) := M7.out.box.cell 0
      have cr0 : _ = some (Value.slice none 0 0) := M7.out.res.cell 0
      have yr0 := M7.out.res.free 0
      have OUT := Lib.hid (DS.finish M7.out hbw)
      have z9 : (World.setCell (w5.setCell ⟨b, k * 8, none⟩ (.string x)) ⟨w.heap.size, 0, none⟩ (Value.slice (some ⟨b, 0, none⟩) ps.length cap)).cell? ⟨w.heap.size, 0, none⟩ = some (Value.slice (some ⟨b, 0, none⟩) ps.length cap) := World.cell?_setCell_same _ _ _ cr0
      have HSE := Lib.hid (SmD_set (k := k) (p' := ⟨{ r with nm := x }, .slice Ab r.bytes.length cb, .slice An r.names.length cn, .slice At r.tags.length ct, .slice Ak r.kids.length ck⟩) HSM.out (⟨by have h := HX.out; have := HN0.out; simp only [List.mem_cons, List.not_mem_nil, or_false] at h; (try dsimp only); rcases h with rfl | rfl | rfl | rfl <;> first | omega | decide, HSR.out.lens, HSR.out.nms, HSR.out.kind, HSR.out.ints⟩))
      clear M7
      go_wp2
      refine bodyPost_ret (v := vdesc (Value.slice (some ⟨b, 0, none⟩) ps.length cap)) (by simp [results, Try.results40, go_sem, z9, vdesc]) rfl ?_
      have HLN : Hid ((ps.set k (⟨{ r with nm := x }, .slice Ab r.bytes.length cb, .slice An r.names.length cn, .slice At r.tags.length ct, .slice Ak r.kids.length ck⟩)).length ≤ 6) := by show _ ≤ _; simp; omega
      first
        | exact ⟨_, _, rfl, ⟨HSE.out, OUT.out.1, OUT.out.2.1⟩, HLN.out, OUT.out.2.2.1, OUT.out.2.2.2⟩
        | exact ⟨_, rfl, _, ⟨HSE.out, OUT.out.1, OUT.out.2.1⟩, HLN.out, OUT.out.2.2.1, OUT.out.2.2.2⟩
  · have HWx : Hid (∀ x : Nat, below 13 x → x < 13 ∧ IntKind.i64.wrap ((x : Int) - 1) = (x : Int) - 1) := fun x hx => by
      have : x < 13 := by unfold below at hx; rw [if_neg (by omega)] at hx; omega
      exact ⟨this, IntWalk.i64_in _ (by omega)⟩
    go_wp2_with fail
    go_region_law (first
      | (go_simp; go_at_call 20; refine (CBe.out 13 _ SX.out.cur (by omega)).mono ?_; rintro _ w5 ⟨x, hx, rfl, hC5, hg5⟩; have S5 := Lib.hid (DS.moved SX.out hC5 hg5); have c5 : _ = some (Value.slice (some ⟨b, 0, none⟩) ps.length cap) := S5.out.box.cell 0; have HX := Lib.hid (HWx.out x hx); have hw5 := HX.out.2; clear hx; have PT := S5.out.put' k 1 hk (by omega) HQ.out (.int .i64 ((x : Int) - 1)) ⟨{ r with kind := (x : Int) - 1 }, .slice Ab r.bytes.length cb, .slice An r.names.length cn, .slice At r.tags.length ct, .slice Ak r.kids.length ck⟩ rfl rfl ⟨rfl, rfl, rfl, rfl⟩; have z5 : w5.cell? ⟨b, k * 8 + 1, none⟩ = some (Value.int .i64 r.kind) := PT.1.1; have y5 : w5.frozen? ⟨b, k * 8 + 1, none⟩ = false := PT.1.2; have M7 : Hid (DS wb w (w5.setCell ⟨b, k * 8 + 1, none⟩ (.int .i64 ((x : Int) - 1))) p A l c g (Value.slice (some ⟨b, 0, none⟩) ps.length cap) (ps.set k ⟨{ r with kind := (x : Int) - 1 }, .slice Ab r.bytes.length cb, .slice An r.names.length cn, .slice At r.tags.length ct, .slice Ak r.kids.length ck⟩) w.heap.size) := PT.2; clear PT S5 hC5 hg5))
    all_goals
      clear hw5
      have cg : _ = some (Value.slice (some ⟨b, 0, none⟩) ps.length cap) := M7.out.box.cell 0
      have cr0 : _ = some (Value.slice none 0 0) := M7.out.res.cell 0
      have yr0 := M7.out.res.free 0
      have OUT := Lib.hid (DS.finish M7.out hbw)
      have z9 : (World.setCell (w5.setCell ⟨b, k * 8 + 1, none⟩ (.int .i64 ((x : Int) - 1))) ⟨w.heap.size, 0, none⟩ (Value.slice (some ⟨b, 0, none⟩) ps.length cap)).cell? ⟨w.heap.size, 0, none⟩ = some (Value.slice (some ⟨b, 0, none⟩) ps.length cap) := World.cell?_setCell_same _ _ _ cr0
      have HSE := Lib.hid (SmD_set (k := k) (p' := ⟨{ r with kind := (x : Int) - 1 }, .slice Ab r.bytes.length cb, .slice An r.names.length cn, .slice At r.tags.length ct, .slice Ak r.kids.length ck⟩) HSM.out (⟨HSR.out.nm, HSR.out.lens, HSR.out.nms, by have := HX.out.1; (try dsimp only); omega, HSR.out.ints⟩))
      clear M7
      go_wp2
      refine bodyPost_ret (v := vdesc (Value.slice (some ⟨b, 0, none⟩) ps.length cap)) (by simp [results, Try.results40, go_sem, z9, vdesc]) rfl ?_
      have HLN : Hid ((ps.set k (⟨{ r with kind := (x : Int) - 1 }, .slice Ab r.bytes.length cb, .slice An r.names.length cn, .slice At r.tags.length ct, .slice Ak r.kids.length ck⟩)).length ≤ 6) := by show _ ≤ _; simp; omega
      first
        | exact ⟨_, _, rfl, ⟨HSE.out, OUT.out.1, OUT.out.2.1⟩, HLN.out, OUT.out.2.2.1, OUT.out.2.2.2⟩
        | exact ⟨_, rfl, _, ⟨HSE.out, OUT.out.1, OUT.out.2.1⟩, HLN.out, OUT.out.2.2.1, OUT.out.2.2.2⟩
  · have cl1 : _ = some (Value.slice (some ⟨b, 0, none⟩) ps.length cap) := (S3.out.ext (Ext_drew (Ext_alloc (.cells #[.int .i64 (-1), .int .i64 0, .int .i64 1, .int .i64 4, .int .i64 5, .int .i64 64, .int .i64 65] 3) (Ext.refl w3)))).box.cell 0
    go_wp2_with fail
    go_region_law (first
      | (go_simp; go_at_call 38; refine (l1IntBox_c [-1, 0, 1, 4, 5, 64, 65] (by simp) (by simp) 7 rfl #[.int .i64 (-1), .int .i64 0, .int .i64 1, .int .i64 4, .int .i64 5, .int .i64 64, .int .i64 65] rfl wb _ p A l c hA _ ((S3.out.ext (Ext_drew (Ext_alloc (.cells #[.int .i64 (-1), .int .i64 0, .int .i64 1, .int .i64 4, .int .i64 5, .int .i64 64, .int .i64 65] 3) (Ext.refl w3))))).cur (Box.newd' _ _ _ _ rfl)).mono ?_; rintro _ w5 ⟨x, hx, rfl, hC5, hg5⟩; have S5 := Lib.hid (DS.moved (S3.out.ext (Ext_drew (Ext_alloc (.cells #[.int .i64 (-1), .int .i64 0, .int .i64 1, .int .i64 4, .int .i64 5, .int .i64 64, .int .i64 65] 3) (Ext.refl w3)))) hC5 hg5); have c5 : _ = some (Value.slice (some ⟨b, 0, none⟩) ps.length cap) := S5.out.box.cell 0; have HX := Lib.hid hx; clear hx; have PT := S5.out.put' k 2 hk (by omega) HQ.out (.int .i64 x) ⟨{ r with size := x }, .slice Ab r.bytes.length cb, .slice An r.names.length cn, .slice At r.tags.length ct, .slice Ak r.kids.length ck⟩ rfl rfl ⟨rfl, rfl, rfl, rfl⟩; have z5 : w5.cell? ⟨b, k * 8 + 2, none⟩ = some (Value.int .i64 r.size) := PT.1.1; have y5 : w5.frozen? ⟨b, k * 8 + 2, none⟩ = false := PT.1.2; have M7 : Hid (DS wb w (w5.setCell ⟨b, k * 8 + 2, none⟩ (.int .i64 x)) p A l c g (Value.slice (some ⟨b, 0, none⟩) ps.length cap) (ps.set k ⟨{ r with size := x }, .slice Ab r.bytes.length cb, .slice An r.names.length cn, .slice At r.tags.length ct, .slice Ak r.kids.length ck⟩) w.heap.size) := PT.2; clear PT S5 hC5 hg5)
      | (go_simp; go_at_call 38; refine (l1IntBox_c [-1, 0, 1, 4, 5, 64, 65] (by simp) (by simp) 7 rfl #[.int .i64 (-1), .int .i64 0, .int .i64 1, .int .i64 4, .int .i64 5, .int .i64 64, .int .i64 65] rfl wb _ p A l c hA _ ((SX.out.ext (Ext_alloc (.cells #[.int .i64 (-1), .int .i64 0, .int .i64 1, .int .i64 4, .int .i64 5, .int .i64 64, .int .i64 65] 3) (Ext.refl _)))).cur (Box.new' _ _ _ _ rfl)).mono ?_; rintro _ w5 ⟨x, hx, rfl, hC5, hg5⟩; have S5 := Lib.hid (DS.moved (SX.out.ext (Ext_alloc (.cells #[.int .i64 (-1), .int .i64 0, .int .i64 1, .int .i64 4, .int .i64 5, .int .i64 64, .int .i64 65] 3) (Ext.refl _))) hC5 hg5); have c5 : _ = some (Value.slice (some ⟨b, 0, none⟩) ps.length cap) := S5.out.box.cell 0; have HX := Lib.hid hx; clear hx; have PT := S5.out.put' k 2 hk (by omega) HQ.out (.int .i64 x) ⟨{ r with size := x }, .slice Ab r.bytes.length cb, .slice An r.names.length cn, .slice At r.tags.length ct, .slice Ak r.kids.length ck⟩ rfl rfl ⟨rfl, rfl, rfl, rfl⟩; have z5 : w5.cell? ⟨b, k * 8 + 2, none⟩ = some (Value.int .i64 r.size) := PT.1.1; have y5 : w5.frozen? ⟨b, k * 8 + 2, none⟩ = false := PT.1.2; have M7 : Hid (DS wb w (w5.setCell ⟨b, k * 8 + 2, none⟩ (.int .i64 x)) p A l c g (Value.slice (some ⟨b, 0, none⟩) ps.length cap) (ps.set k ⟨{ r with size := x }, .slice Ab r.bytes.length cb, .slice An r.names.length cn, .slice At r.tags.length ct, .slice Ak r.kids.length ck⟩) w.heap.size) := PT.2; clear PT S5 hC5 hg5))
    all_goals
      have cg : _ = some (Value.slice (some ⟨b, 0, none⟩) ps.length cap) := M7.out.box.cell 0
      have cr0 : _ = some (Value.slice none 0 0) := M7.out.res.cell 0
      have yr0 := M7.out.res.free 0
      have OUT := Lib.hid (DS.finish M7.out hbw)
      have z9 : (World.setCell (w5.setCell ⟨b, k * 8 + 2, none⟩ (.int .i64 x)) ⟨w.heap.size, 0, none⟩ (Value.slice (some ⟨b, 0, none⟩) ps.length cap)).cell? ⟨w.heap.size, 0, none⟩ = some (Value.slice (some ⟨b, 0, none⟩) ps.length cap) := World.cell?_setCell_same _ _ _ cr0
      have HSE := Lib.hid (SmD_set (k := k) (p' := ⟨{ r with size := x }, .slice Ab r.bytes.length cb, .slice An r.names.length cn, .slice At r.tags.length ct, .slice Ak r.kids.length ck⟩) HSM.out (⟨HSR.out.nm, HSR.out.lens, HSR.out.nms, HSR.out.kind, ⟨by have h := HX.out; simp at h; (try dsimp only); omega, HSR.out.ints.2⟩⟩))
      clear M7
      go_wp2
      refine bodyPost_ret (v := vdesc (Value.slice (some ⟨b, 0, none⟩) ps.length cap)) (by simp [results, Try.results40, go_sem, z9, vdesc]) rfl ?_
      have HLN : Hid ((ps.set k (⟨{ r with size := x }, .slice Ab r.bytes.length cb, .slice An r.names.length cn, .slice At r.tags.length ct, .slice Ak r.kids.length ck⟩)).length ≤ 6) := by show _ ≤ _; simp; omega
      first
        | exact ⟨_, _, rfl, ⟨HSE.out, OUT.out.1, OUT.out.2.1⟩, HLN.out, OUT.out.2.2.1, OUT.out.2.2.2⟩
        | exact ⟨_, rfl, _, ⟨HSE.out, OUT.out.1, OUT.out.2.1⟩, HLN.out, OUT.out.2.2.1, OUT.out.2.2.2⟩
  · have PT := S3.out.put' k 3 hk (by omega) HQ.out (.bool (!r.little)) ⟨{ r with little := !r.little }, .slice Ab r.bytes.length cb, .slice An r.names.length cn, .slice At r.tags.length ct, .slice Ak r.kids.length ck⟩ rfl rfl ⟨rfl, rfl, rfl, rfl⟩
    have z5 : w3.cell? ⟨b, k * 8 + 3, none⟩ = some (Value.bool r.little) := PT.1.1
    have y5 : w3.frozen? ⟨b, k * 8 + 3, none⟩ = false := PT.1.2
    have M7 := Lib.hid (PT.2.ext (Ext_drew (Ext.refl _)))
    clear PT
    go_wp2_with fail
    go_region
    all_goals
      obtain ⟨W9, hW9⟩ : ∃ W9, W9 = (w3.setCell ⟨b, k * 8 + 3, none⟩ (.bool (!r.little))).drew := ⟨_, rfl⟩
      rw [← hW9] at M7 ⊢
      clear hW9 z5 y5 cd0 SX S3
      have cg : _ = some (Value.slice (some ⟨b, 0, none⟩) ps.length cap) := M7.out.box.cell 0
      have cr0 : _ = some (Value.slice none 0 0) := M7.out.res.cell 0
      have yr0 := M7.out.res.free 0
      have OUT := Lib.hid (DS.finish M7.out hbw)
      have z9 : (World.setCell (W9) ⟨w.heap.size, 0, none⟩ (Value.slice (some ⟨b, 0, none⟩) ps.length cap)).cell? ⟨w.heap.size, 0, none⟩ = some (Value.slice (some ⟨b, 0, none⟩) ps.length cap) := World.cell?_setCell_same _ _ _ cr0
      have HSE := Lib.hid (SmD_set (k := k) (p' := ⟨{ r with little := !r.little }, .slice Ab r.bytes.length cb, .slice An r.names.length cn, .slice At r.tags.length ct, .slice Ak r.kids.length ck⟩) HSM.out (⟨HSR.out.nm, HSR.out.lens, HSR.out.nms, HSR.out.kind, HSR.out.ints⟩))
      clear M7
      go_wp2
      refine bodyPost_ret (v := vdesc (Value.slice (some ⟨b, 0, none⟩) ps.length cap)) (by simp [results, Try.results40, go_sem, z9, vdesc]) rfl ?_
      have HLN : Hid ((ps.set k (⟨{ r with little := !r.little }, .slice Ab r.bytes.length cb, .slice An r.names.length cn, .slice At r.tags.length ct, .slice Ak r.kids.length ck⟩)).length ≤ 6) := by show _ ≤ _; simp; omega
      first
        | exact ⟨_, _, rfl, ⟨HSE.out, OUT.out.1, OUT.out.2.1⟩, HLN.out, OUT.out.2.2.1, OUT.out.2.2.2⟩
        | exact ⟨_, rfl, _, ⟨HSE.out, OUT.out.1, OUT.out.2.1⟩, HLN.out, OUT.out.2.2.1, OUT.out.2.2.2⟩
  · have k0 : w3.cell? ⟨b, k * 8 + 7, none⟩ = some (Value.slice Ak r.kids.length ck) := S3.out.cellr k 7 hk (by omega) HQ.out
    have HBn : Hid (∀ z : Int, (r.kids.length + [z].length) * 8 ≤ 140737488355328) := fun z => by have := HSR.out.lens; simp; omega
    have HLn : Hid (∀ z : Int, (r.kids ++ [z]).length ≤ 140737488351232) := fun z => by have := HSR.out.lens; simp; omega
    have HWx : Hid (∀ x : Nat, below 8 x → x < 8 ∧ IntKind.i64.wrap ((x : Int) - 1) = (x : Int) - 1) := fun x hx => by
      have : x < 8 := by unfold below at hx; rw [if_neg (by omega)] at hx; omega
      exact ⟨this, IntWalk.i64_in _ (by omega)⟩
    go_wp2_with fail
    have HAB : lv2 (fun w' => w'.cell? ⟨g, 0, none⟩ = some (Value.slice (some ⟨b, 0, none⟩) ps.length cap)) (fun w' => w'.cell? ⟨b, k * 8 + 7, none⟩ = some (Value.slice Ak r.kids.length ck)) 2 w3.drew := ⟨SX.out.box.cell 0, SX.out.cellr k 7 hk (by omega) HQ.out⟩
    refine wp_region_C (C := fun j => lv2 (fun w' => w'.cell? ⟨g, 0, none⟩ = some (Value.slice (some ⟨b, 0, none⟩) ps.length cap)) (fun w' => w'.cell? ⟨b, k * 8 + 7, none⟩ = some (Value.slice Ak r.kids.length ck)) (([0, 1, 0, 0, 1, 0, 0, 0, 2, 0, 2, 2, 2, 1, 0, 0, 0] : List Nat).getD j 0)) (by kernel_rfl) ?_
    refine wpAnyC_take 0 (i := 0) (v := ?_) (lv2_mono _ _) rfl (by kernel_rfl) (by kernel_rfl) (by kernel_rfl) (by kernel_rfl) (by kernel_rfl) (fun _ _ _ h => h) trivial (Or.inl ⟨by rfl, ?_⟩) ?_
    rotate_left
    · (intro w hSw; clear hSw; go_simp; try with_reducible rfl)
    try simp only [Act.put, List.setIfInBounds_toArray, List.set_cons_zero, List.set_cons_succ]
    refine wpAnyC_take 0 (i := 2) (v := ?_) (lv2_mono _ _) rfl (by kernel_rfl) (by kernel_rfl) (by kernel_rfl) (by kernel_rfl) (by kernel_rfl) (fun _ _ _ h => h) trivial (Or.inl ⟨by rfl, ?_⟩) ?_
    rotate_left
    · (intro w hSw; clear hSw; go_simp; try with_reducible rfl)
    try simp only [Act.put, List.setIfInBounds_toArray, List.set_cons_zero, List.set_cons_succ]
    refine wpAnyC_take 0 (i := 3) (v := ?_) (lv2_mono _ _) rfl (by kernel_rfl) (by kernel_rfl) (by kernel_rfl) (by kernel_rfl) (by kernel_rfl) (fun _ _ _ h => h) trivial (Or.inl ⟨by rfl, ?_⟩) ?_
    rotate_left
    · (intro w hSw; clear hSw; go_simp; try with_reducible rfl)
    try simp only [Act.put, List.setIfInBounds_toArray, List.set_cons_zero, List.set_cons_succ]
    refine wpAnyC_take 0 (i := 5) (v := ?_) (lv2_mono _ _) rfl (by kernel_rfl) (by kernel_rfl) (by kernel_rfl) (by kernel_rfl) (by kernel_rfl) (fun _ _ _ h => h) trivial (Or.inl ⟨by rfl, ?_⟩) ?_
    rotate_left
    · (intro w hSw; clear hSw; go_simp; try with_reducible rfl)
    try simp only [Act.put, List.setIfInBounds_toArray, List.set_cons_zero, List.set_cons_succ]
    refine wpAnyC_take 0 (i := 9) (v := ?_) (lv2_mono _ _) rfl (by kernel_rfl) (by kernel_rfl) (by kernel_rfl) (by kernel_rfl) (by kernel_rfl) (fun _ _ _ h => h) trivial (Or.inl ⟨by rfl, ?_⟩) ?_
    rotate_left
    · (intro w hSw; clear hSw; go_simp; try with_reducible rfl)
    try simp only [Act.put, List.setIfInBounds_toArray, List.set_cons_zero, List.set_cons_succ]
    refine wpAnyC_take 1 (i := 4) (v := ?_) (lv2_mono _ _) rfl (by kernel_rfl) (by kernel_rfl) (by kernel_rfl) (by kernel_rfl) (by kernel_rfl) (fun _ _ _ h => h) (And.left HAB) (Or.inl ⟨by rfl, ?_⟩) ?_
    rotate_left
    · (intro w hSw; have hfact : w.cell? ⟨g, 0, none⟩ = some (Value.slice (some ⟨b, 0, none⟩) ps.length cap) := hSw; clear hSw; go_simp; try with_reducible rfl)
    try simp only [Act.put, List.setIfInBounds_toArray, List.set_cons_zero, List.set_cons_succ]
    refine wpAnyC_take 0 (i := 6) (v := ?_) (lv2_mono _ _) rfl (by kernel_rfl) (by kernel_rfl) (by kernel_rfl) (by kernel_rfl) (by kernel_rfl) (fun _ _ _ h => h) trivial (Or.inl ⟨by rfl, ?_⟩) ?_
    rotate_left
    · (intro w hSw; clear hSw; go_simp; try with_reducible rfl)
    try simp only [Act.put, List.setIfInBounds_toArray, List.set_cons_zero, List.set_cons_succ]
    refine wpAnyC_take 0 (i := 7) (v := ?_) (lv2_mono _ _) rfl (by kernel_rfl) (by kernel_rfl) (by kernel_rfl) (by kernel_rfl) (by kernel_rfl) (fun _ _ _ h => h) trivial (Or.inl ⟨by rfl, ?_⟩) ?_
    rotate_left
    · (intro w hSw; clear hSw; go_simp; try with_reducible rfl)
    try simp only [Act.put, List.setIfInBounds_toArray, List.set_cons_zero, List.set_cons_succ]
    refine wpAnyC_take 1 (i := 1) (v := ?_) (lv2_mono _ _) rfl (by kernel_rfl) (by kernel_rfl) (by kernel_rfl) (by kernel_rfl) (by kernel_rfl) (fun _ _ _ h => h) (And.left HAB) (Or.inl ⟨by rfl, ?_⟩) ?_
    rotate_left
    · (intro w hSw; have hfact : w.cell? ⟨g, 0, none⟩ = some (Value.slice (some ⟨b, 0, none⟩) ps.length cap) := hSw; clear hSw; go_simp; try with_reducible rfl)
    try simp only [Act.put, List.setIfInBounds_toArray, List.set_cons_zero, List.set_cons_succ]
    refine wpAnyC_take 2 (i := 8) (v := ?_) (lv2_mono _ _) rfl (by kernel_rfl) (by kernel_rfl) (by kernel_rfl) (by kernel_rfl) (by kernel_rfl) (fun _ _ _ h => h) HAB (Or.inl ⟨by rfl, ?_⟩) ?_
    rotate_left
    · (intro w hSw; have hfact : w.cell? ⟨b, k * 8 + 7, none⟩ = some (Value.slice Ak r.kids.length ck) := hSw.2; clear hSw; go_simp; try with_reducible rfl)
    try simp only [Act.put, List.setIfInBounds_toArray, List.set_cons_zero, List.set_cons_succ]
    refine wpAnyC_one (i := 10) (by kernel_rfl) rfl (fun K hK => ?_)
    go_simp
    go_at_call 20
    refine (CBe.out 8 _ SX.out.cur (by omega)).mono ?_
    rintro _ w5 ⟨x, hx, rfl, hC5, hg5⟩
    have HX := Lib.hid (HWx.out x hx)
    have hw5 := HX.out.2
    clear hx
    have S5 := Lib.hid (DS.moved SX.out hC5 hg5)
    clear hC5 hg5
    refine Shut.out hK _ _ ⟨S5.out.box.cell 0, S5.out.cellr k 7 hk (by omega) HQ.out⟩ ?_
    try simp only [Act.put, List.setIfInBounds_toArray, List.set_cons_zero, List.set_cons_succ]
    refine wpAnyC_one (i := 11) (by kernel_rfl) rfl (fun K hK => ?_)
    go_simp
    refine Shut.out hK _ _ ⟨S5.out.box.cell 0, S5.out.cellr k 7 hk (by omega) HQ.out⟩ ?_
    try simp only [Act.put, List.setIfInBounds_toArray, List.set_cons_zero, List.set_cons_succ]
    refine wpAnyC_one (i := 12) (by kernel_rfl) rfl (fun K hK => ?_)
    go_simp
    have S5' := Lib.hid (S5.out.ext (Ext_alloc (.cells #[.int .i64 ((x : Int) - 1)] 3) (Ext.refl _)))
    refine Shut.out hK _ _ ⟨S5'.out.box.cell 0, S5'.out.cellr k 7 hk (by omega) HQ.out⟩ ?_
    try simp only [Act.put, List.setIfInBounds_toArray, List.set_cons_zero, List.set_cons_succ]
    refine wpAnyC_one (i := 13) (by kernel_rfl) rfl (fun K hK => ?_)
    refine step_appG rfl (.tmp 73) (.tmp 77) _ rfl E_int (by omega) wb _ vint (fun _ => rfl) (Value.slice Ak r.kids.length ck) rfl (some ⟨w5.heap.size, 0, none⟩) 1 1 rfl r.kids [(x : Int) - 1] (S5'.out.rule k hk HQ.out).k S5'.out.cur.2.1 rfl (fun _ => ⟨_, rfl, fun j u hu => (World.cell?_alloc_at' w5 [.int .i64 ((x : Int) - 1)] 3 j).trans (hu)⟩) (HBn.out _) ?_
    intro v7 w7 ho7 he7 hv7 hg7
    obtain ⟨A7, c7, hsh, _⟩ := OwnL.rd ho7 (HLn.out _)
    replace hsh : v7 = .slice A7 (r.kids.length + 1) c7 := (by rw [hsh, List.length_append]; rfl)
    subst hsh
    obtain ⟨⟨z7, y7, g7⟩, M7⟩ := S5'.out.app_k' k hk HQ.out ho7 he7 hv7 hg7
    have z7 : w7.cell? ⟨b, k * 8 + 7, none⟩ = some (Value.slice Ak r.kids.length ck) := z7
    clear ho7 he7 hv7 hg7
    have M7 := Lib.hid M7
    refine Shut.out hK _ _ g7 ?_
    try simp only [Act.put, List.setIfInBounds_toArray, List.set_cons_zero, List.set_cons_succ]
    refine wpAnyC_one (i := 14) (by kernel_rfl) rfl (fun K hK => ?_)
    go_simp
    refine Shut.out hK _ _ trivial ?_
    try simp only [Act.put, List.setIfInBounds_toArray, List.set_cons_zero, List.set_cons_succ]
    refine wpAnyC_one (i := 15) (by kernel_rfl) rfl (fun K hK => ?_)
    go_simp
    refine Shut.out hK _ _ trivial ?_
    try simp only [Act.put, List.setIfInBounds_toArray, List.set_cons_zero, List.set_cons_succ]
    refine wpAnyC_one (i := 16) (by kernel_rfl) rfl (fun K hK => ?_)
    go_simp
    refine Shut.out hK _ _ trivial ?_
    try simp only [Act.put, List.setIfInBounds_toArray, List.set_cons_zero, List.set_cons_succ]
    refine wpAnyC_done (by kernel_rfl) ?_ _
    have cg : _ = some (Value.slice (some ⟨b, 0, none⟩) ps.length cap) := M7.out.box.cell 0
    have cr0 : _ = some (Value.slice none 0 0) := M7.out.res.cell 0
    have yr0 := M7.out.res.free 0
    have OUT := Lib.hid (DS.finish M7.out hbw)
    have z9 : (World.setCell (w7.setCell ⟨b, k * 8 + 7, none⟩ (.slice A7 (r.kids.length + 1) c7)) ⟨w.heap.size, 0, none⟩ (Value.slice (some ⟨b, 0, none⟩) ps.length cap)).cell? ⟨w.heap.size, 0, none⟩ = some (Value.slice (some ⟨b, 0, none⟩) ps.length cap) := World.cell?_setCell_same _ _ _ cr0
    have HSE := Lib.hid (SmD_set (k := k) (p' := ⟨{ r with kids := r.kids ++ [(x : Int) - 1] }, .slice Ab r.bytes.length cb, .slice An r.names.length cn, .slice At r.tags.length ct, (.slice A7 (r.kids.length + 1) c7)⟩) HSM.out (⟨HSR.out.nm, by have := HSL.out.lens; (try dsimp only); simp only [List.length_append, List.length_singleton]; omega, HSR.out.nms, HSR.out.kind, ⟨HSR.out.ints.1, HSR.out.ints.2.1, fun z hz => (List.mem_append.1 hz).elim (fun h => HSR.out.ints.2.2 z h) (fun h => by have := HX.out.1; rw [List.mem_singleton.1 h]; omega)⟩⟩))
    clear M7
    go_wp2
    refine bodyPost_ret (v := vdesc (Value.slice (some ⟨b, 0, none⟩) ps.length cap)) (by simp [results, Try.results40, go_sem, z9, vdesc]) rfl ?_
    have HLN : Hid ((ps.set k (⟨{ r with kids := r.kids ++ [(x : Int) - 1] }, .slice Ab r.bytes.length cb, .slice An r.names.length cn, .slice At r.tags.length ct, (.slice A7 (r.kids.length + 1) c7)⟩)).length ≤ 6) := by show _ ≤ _; simp; omega
    first
      | exact ⟨_, _, rfl, ⟨HSE.out, OUT.out.1, OUT.out.2.1⟩, HLN.out, OUT.out.2.2.1, OUT.out.2.2.2⟩
      | exact ⟨_, rfl, _, ⟨HSE.out, OUT.out.1, OUT.out.2.1⟩, HLN.out, OUT.out.2.2.1, OUT.out.2.2.2⟩
  · have k0 : w3.cell? ⟨b, k * 8 + 4, none⟩ = some (Value.slice Ab r.bytes.length cb) := S3.out.cellr k 4 hk (by omega) HQ.out
    have HBn : Hid (∀ z : UInt8, (r.bytes.length + [z].length) * 1 ≤ 140737488355328) := fun z => by have := HSR.out.lens; simp; omega
    have HLn : Hid (∀ z : UInt8, (r.bytes ++ [z]).length ≤ 140737488351232) := fun z => by have := HSR.out.lens; simp; omega
    have HWx : Hid (∀ x : Int, x ∈ [(0 : Int), 92] → ∃ y1 : Nat, IntKind.u8.wrap (y1 : Int) = (y1 : Int) ∧ vu8 (UInt8.ofNat y1) = .int .u8 y1 ∧ x = (y1 : Int)) := fun x hx => by
      simp only [List.mem_cons, List.not_mem_nil, or_false] at hx
      rcases hx with rfl | rfl
      · exact ⟨0, rfl, rfl, rfl⟩
      · exact ⟨92, rfl, rfl, rfl⟩
    go_wp2_with fail
    have HAB : lv2 (fun w' => w'.cell? ⟨g, 0, none⟩ = some (Value.slice (some ⟨b, 0, none⟩) ps.length cap)) (fun w' => w'.cell? ⟨b, k * 8 + 4, none⟩ = some (Value.slice Ab r.bytes.length cb)) 2 w3.drew := ⟨SX.out.box.cell 0, SX.out.cellr k 4 hk (by omega) HQ.out⟩
    refine wp_region_C (C := fun j => lv2 (fun w' => w'.cell? ⟨g, 0, none⟩ = some (Value.slice (some ⟨b, 0, none⟩) ps.length cap)) (fun w' => w'.cell? ⟨b, k * 8 + 4, none⟩ = some (Value.slice Ab r.bytes.length cb)) (([0, 1, 0, 0, 1, 0, 0, 0, 2, 0, 2, 2, 2, 2, 1, 0, 0, 0] : List Nat).getD j 0)) (by kernel_rfl) ?_
    refine wpAnyC_take 0 (i := 0) (v := ?_) (lv2_mono _ _) rfl (by kernel_rfl) (by kernel_rfl) (by kernel_rfl) (by kernel_rfl) (by kernel_rfl) (fun _ _ _ h => h) trivial (Or.inl ⟨by rfl, ?_⟩) ?_
    rotate_left
    · (intro w hSw; clear hSw; go_simp; try with_reducible rfl)
    try simp only [Act.put, List.setIfInBounds_toArray, List.set_cons_zero, List.set_cons_succ]
    refine wpAnyC_take 0 (i := 2) (v := ?_) (lv2_mono _ _) rfl (by kernel_rfl) (by kernel_rfl) (by kernel_rfl) (by kernel_rfl) (by kernel_rfl) (fun _ _ _ h => h) trivial (Or.inl ⟨by rfl, ?_⟩) ?_
    rotate_left
    · (intro w hSw; clear hSw; go_simp; try with_reducible rfl)
    try simp only [Act.put, List.setIfInBounds_toArray, List.set_cons_zero, List.set_cons_succ]
    refine wpAnyC_take 0 (i := 3) (v := ?_) (lv2_mono _ _) rfl (by kernel_rfl) (by kernel_rfl) (by kernel_rfl) (by kernel_rfl) (by kernel_rfl) (fun _ _ _ h => h) trivial (Or.inl ⟨by rfl, ?_⟩) ?_
    rotate_left
    · (intro w hSw; clear hSw; go_simp; try with_reducible rfl)
    try simp only [Act.put, List.setIfInBounds_toArray, List.set_cons_zero, List.set_cons_succ]
    refine wpAnyC_take 0 (i := 5) (v := ?_) (lv2_mono _ _) rfl (by kernel_rfl) (by kernel_rfl) (by kernel_rfl) (by kernel_rfl) (by kernel_rfl) (fun _ _ _ h => h) trivial (Or.inl ⟨by rfl, ?_⟩) ?_
    rotate_left
    · (intro w hSw; clear hSw; go_simp; try with_reducible rfl)
    try simp only [Act.put, List.setIfInBounds_toArray, List.set_cons_zero, List.set_cons_succ]
    refine wpAnyC_take 0 (i := 9) (v := ?_) (lv2_mono _ _) rfl (by kernel_rfl) (by kernel_rfl) (by kernel_rfl) (by kernel_rfl) (by kernel_rfl) (fun _ _ _ h => h) trivial (Or.inl ⟨by rfl, ?_⟩) ?_
    rotate_left
    · (intro w hSw; clear hSw; go_simp; try with_reducible rfl)
    try simp only [Act.put, List.setIfInBounds_toArray, List.set_cons_zero, List.set_cons_succ]
    refine wpAnyC_take 1 (i := 4) (v := ?_) (lv2_mono _ _) rfl (by kernel_rfl) (by kernel_rfl) (by kernel_rfl) (by kernel_rfl) (by kernel_rfl) (fun _ _ _ h => h) (And.left HAB) (Or.inl ⟨by rfl, ?_⟩) ?_
    rotate_left
    · (intro w hSw; have hfact : w.cell? ⟨g, 0, none⟩ = some (Value.slice (some ⟨b, 0, none⟩) ps.length cap) := hSw; clear hSw; go_simp; try with_reducible rfl)
    try simp only [Act.put, List.setIfInBounds_toArray, List.set_cons_zero, List.set_cons_succ]
    refine wpAnyC_take 0 (i := 6) (v := ?_) (lv2_mono _ _) rfl (by kernel_rfl) (by kernel_rfl) (by kernel_rfl) (by kernel_rfl) (by kernel_rfl) (fun _ _ _ h => h) trivial (Or.inl ⟨by rfl, ?_⟩) ?_
    rotate_left
    · (intro w hSw; clear hSw; go_simp; try with_reducible rfl)
    try simp only [Act.put, List.setIfInBounds_toArray, List.set_cons_zero, List.set_cons_succ]
    refine wpAnyC_take 0 (i := 7) (v := ?_) (lv2_mono _ _) rfl (by kernel_rfl) (by kernel_rfl) (by kernel_rfl) (by kernel_rfl) (by kernel_rfl) (fun _ _ _ h => h) trivial (Or.inl ⟨by rfl, ?_⟩) ?_
    rotate_left
    · (intro w hSw; clear hSw; go_simp; try with_reducible rfl)
    try simp only [Act.put, List.setIfInBounds_toArray, List.set_cons_zero, List.set_cons_succ]
    refine wpAnyC_take 1 (i := 1) (v := ?_) (lv2_mono _ _) rfl (by kernel_rfl) (by kernel_rfl) (by kernel_rfl) (by kernel_rfl) (by kernel_rfl) (fun _ _ _ h => h) (And.left HAB) (Or.inl ⟨by rfl, ?_⟩) ?_
    rotate_left
    · (intro w hSw; have hfact : w.cell? ⟨g, 0, none⟩ = some (Value.slice (some ⟨b, 0, none⟩) ps.length cap) := hSw; clear hSw; go_simp; try with_reducible rfl)
    try simp only [Act.put, List.setIfInBounds_toArray, List.set_cons_zero, List.set_cons_succ]
    refine wpAnyC_take 2 (i := 8) (v := ?_) (lv2_mono _ _) rfl (by kernel_rfl) (by kernel_rfl) (by kernel_rfl) (by kernel_rfl) (by kernel_rfl) (fun _ _ _ h => h) HAB (Or.inl ⟨by rfl, ?_⟩) ?_
    rotate_left
    · (intro w hSw; have hfact : w.cell? ⟨b, k * 8 + 4, none⟩ = some (Value.slice Ab r.bytes.length cb) := hSw.2; clear hSw; go_simp; try with_reducible rfl)
    try simp only [Act.put, List.setIfInBounds_toArray, List.set_cons_zero, List.set_cons_succ]
    refine wpAnyC_one (i := 10) (by kernel_rfl) rfl (fun K hK => ?_)
    go_simp
    have SL := Lib.hid (SX.out.ext (Ext_alloc (.cells #[.int .i64 0, .int .i64 92] 3) (Ext.refl _)))
    refine Shut.out hK _ _ ⟨SL.out.box.cell 0, SL.out.cellr k 4 hk (by omega) HQ.out⟩ ?_
    try simp only [Act.put, List.setIfInBounds_toArray, List.set_cons_zero, List.set_cons_succ]
    refine wpAnyC_one (i := 11) (by kernel_rfl) rfl (fun K hK => ?_)
    go_simp
    go_at_call 38
    refine (l1IntBox_c [0, 92] (by simp) (by simp) 2 rfl #[.int .i64 0, .int .i64 92] rfl wb _ p A l c hA _ SL.out.cur (by first | exact Box.new' _ _ _ _ rfl | exact Box.newd' _ _ _ _ rfl)).mono ?_
    rintro _ w5 ⟨x, hx, rfl, hC5, hg5⟩
    obtain ⟨y1, hw5, hvy, rfl⟩ := HWx.out x hx
    have HY := Lib.hid hvy
    clear hx hvy
    have S5 := Lib.hid (DS.moved SL.out hC5 hg5)
    clear hC5 hg5
    refine Shut.out hK _ _ ⟨S5.out.box.cell 0, S5.out.cellr k 4 hk (by omega) HQ.out⟩ ?_
    try simp only [Act.put, List.setIfInBounds_toArray, List.set_cons_zero, List.set_cons_succ]
    refine wpAnyC_one (i := 12) (by kernel_rfl) rfl (fun K hK => ?_)
    go_simp
    refine Shut.out hK _ _ ⟨S5.out.box.cell 0, S5.out.cellr k 4 hk (by omega) HQ.out⟩ ?_
    try simp only [Act.put, List.setIfInBounds_toArray, List.set_cons_zero, List.set_cons_succ]
    refine wpAnyC_one (i := 13) (by kernel_rfl) rfl (fun K hK => ?_)
    go_simp
    have S5' := Lib.hid (S5.out.ext (Ext_alloc (.cells #[.int .u8 y1] 5) (Ext.refl _)))
    refine Shut.out hK _ _ ⟨S5'.out.box.cell 0, S5'.out.cellr k 4 hk (by omega) HQ.out⟩ ?_
    try simp only [Act.put, List.setIfInBounds_toArray, List.set_cons_zero, List.set_cons_succ]
    refine wpAnyC_one (i := 14) (by kernel_rfl) rfl (fun K hK => ?_)
    refine step_appG rfl (.tmp 91) (.tmp 96) _ rfl E_u8 (by omega) wb _ vu8 (fun _ => rfl) (Value.slice Ab r.bytes.length cb) rfl (some ⟨w5.heap.size, 0, none⟩) 1 1 rfl r.bytes [UInt8.ofNat y1] (S5'.out.rule k hk HQ.out).b S5'.out.cur.2.1 rfl (fun _ => ⟨_, rfl, fun j u hu => (World.cell?_alloc_at' w5 [.int .u8 y1] 5 j).trans (by rw [← HY.out]; exact hu)⟩) (HBn.out _) ?_
    intro v7 w7 ho7 he7 hv7 hg7
    obtain ⟨A7, c7, hsh, _⟩ := OwnL.rd ho7 (HLn.out _)
    replace hsh : v7 = .slice A7 (r.bytes.length + 1) c7 := (by rw [hsh, List.length_append]; rfl)
    subst hsh
    obtain ⟨⟨z7, y7, g7⟩, M7⟩ := S5'.out.app_b' k hk HQ.out ho7 he7 hv7 hg7
    have z7 : w7.cell? ⟨b, k * 8 + 4, none⟩ = some (Value.slice Ab r.bytes.length cb) := z7
    clear ho7 he7 hv7 hg7
    have M7 := Lib.hid M7
    refine Shut.out hK _ _ g7 ?_
    try simp only [Act.put, List.setIfInBounds_toArray, List.set_cons_zero, List.set_cons_succ]
    refine wpAnyC_one (i := 15) (by kernel_rfl) rfl (fun K hK => ?_)
    go_simp
    refine Shut.out hK _ _ trivial ?_
    try simp only [Act.put, List.setIfInBounds_toArray, List.set_cons_zero, List.set_cons_succ]
    refine wpAnyC_one (i := 16) (by kernel_rfl) rfl (fun K hK => ?_)
    go_simp
    refine Shut.out hK _ _ trivial ?_
    try simp only [Act.put, List.setIfInBounds_toArray, List.set_cons_zero, List.set_cons_succ]
    refine wpAnyC_one (i := 17) (by kernel_rfl) rfl (fun K hK => ?_)
    go_simp
    refine Shut.out hK _ _ trivial ?_
    try simp only [Act.put, List.setIfInBounds_toArray, List.set_cons_zero, List.set_cons_succ]
    refine wpAnyC_done (by kernel_rfl) ?_ _
    have cg : _ = some (Value.slice (some ⟨b, 0, none⟩) ps.length cap) := M7.out.box.cell 0
    have cr0 : _ = some (Value.slice none 0 0) := M7.out.res.cell 0
    have yr0 := M7.out.res.free 0
    have OUT := Lib.hid (DS.finish M7.out hbw)
    have z9 : (World.setCell (w7.setCell ⟨b, k * 8 + 4, none⟩ (.slice A7 (r.bytes.length + 1) c7)) ⟨w.heap.size, 0, none⟩ (Value.slice (some ⟨b, 0, none⟩) ps.length cap)).cell? ⟨w.heap.size, 0, none⟩ = some (Value.slice (some ⟨b, 0, none⟩) ps.length cap) := World.cell?_setCell_same _ _ _ cr0
    have HSE := Lib.hid (SmD_set (k := k) (p' := ⟨{ r with bytes := r.bytes ++ [UInt8.ofNat y1] }, (.slice A7 (r.bytes.length + 1) c7), .slice An r.names.length cn, .slice At r.tags.length ct, .slice Ak r.kids.length ck⟩) HSM.out (⟨HSR.out.nm, by have := HSL.out.lens; (try dsimp only); simp only [List.length_append, List.length_singleton]; omega, HSR.out.nms, HSR.out.kind, HSR.out.ints⟩))
    clear M7
    go_wp2
    refine bodyPost_ret (v := vdesc (Value.slice (some ⟨b, 0, none⟩) ps.length cap)) (by simp [results, Try.results40, go_sem, z9, vdesc]) rfl ?_
    have HLN : Hid ((ps.set k (⟨{ r with bytes := r.bytes ++ [UInt8.ofNat y1] }, (.slice A7 (r.bytes.length + 1) c7), .slice An r.names.length cn, .slice At r.tags.length ct, .slice Ak r.kids.length ck⟩)).length ≤ 6) := by show _ ≤ _; simp; omega
    first
      | exact ⟨_, _, rfl, ⟨HSE.out, OUT.out.1, OUT.out.2.1⟩, HLN.out, OUT.out.2.2.1, OUT.out.2.2.2⟩
      | exact ⟨_, rfl, _, ⟨HSE.out, OUT.out.1, OUT.out.2.1⟩, HLN.out, OUT.out.2.2.1, OUT.out.2.2.2⟩
  · have k0 : w3.cell? ⟨b, k * 8 + 5, none⟩ = some (Value.slice An r.names.length cn) := S3.out.cellr k 5 hk (by omega) HQ.out
    have HBn : Hid (∀ z : ByteArray, (r.names.length + [z].length) * 16 ≤ 140737488355328) := fun z => by have := HSR.out.lens; simp; omega
    have HLn : Hid (∀ z : ByteArray, (r.names ++ [z]).length ≤ 140737488351232) := fun z => by have := HSR.out.lens; simp; omega
    go_wp2_with fail
    have HAB : lv2 (fun w' => w'.cell? ⟨g, 0, none⟩ = some (Value.slice (some ⟨b, 0, none⟩) ps.length cap)) (fun w' => w'.cell? ⟨b, k * 8 + 5, none⟩ = some (Value.slice An r.names.length cn)) 2 w3.drew := ⟨SX.out.box.cell 0, SX.out.cellr k 5 hk (by omega) HQ.out⟩
    refine wp_region_C (C := fun j => lv2 (fun w' => w'.cell? ⟨g, 0, none⟩ = some (Value.slice (some ⟨b, 0, none⟩) ps.length cap)) (fun w' => w'.cell? ⟨b, k * 8 + 5, none⟩ = some (Value.slice An r.names.length cn)) (([0, 1, 0, 0, 1, 0, 0, 0, 2, 0, 2, 2, 2, 1, 0, 0, 0] : List Nat).getD j 0)) (by kernel_rfl) ?_
    refine wpAnyC_take 0 (i := 0) (v := ?_) (lv2_mono _ _) rfl (by kernel_rfl) (by kernel_rfl) (by kernel_rfl) (by kernel_rfl) (by kernel_rfl) (fun _ _ _ h => h) trivial (Or.inl ⟨by rfl, ?_⟩) ?_
    rotate_left
    · (intro w hSw; clear hSw; go_simp; try with_reducible rfl)
    try simp only [Act.put, List.setIfInBounds_toArray, List.set_cons_zero, List.set_cons_succ]
    refine wpAnyC_take 0 (i := 2) (v := ?_) (lv2_mono _ _) rfl (by kernel_rfl) (by kernel_rfl) (by kernel_rfl) (by kernel_rfl) (by kernel_rfl) (fun _ _ _ h => h) trivial (Or.inl ⟨by rfl, ?_⟩) ?_
    rotate_left
    · (intro w hSw; clear hSw; go_simp; try with_reducible rfl)
    try simp only [Act.put, List.setIfInBounds_toArray, List.set_cons_zero, List.set_cons_succ]
    refine wpAnyC_take 0 (i := 3) (v := ?_) (lv2_mono _ _) rfl (by kernel_rfl) (by kernel_rfl) (by kernel_rfl) (by kernel_rfl) (by kernel_rfl) (fun _ _ _ h => h) trivial (Or.inl ⟨by rfl, ?_⟩) ?_
    rotate_left
    · (intro w hSw; clear hSw; go_simp; try with_reducible rfl)
    try simp only [Act.put, List.setIfInBounds_toArray, List.set_cons_zero, List.set_cons_succ]
    refine wpAnyC_take 0 (i := 5) (v := ?_) (lv2_mono _ _) rfl (by kernel_rfl) (by kernel_rfl) (by kernel_rfl) (by kernel_rfl) (by kernel_rfl) (fun _ _ _ h => h) trivial (Or.inl ⟨by rfl, ?_⟩) ?_
    rotate_left
    · (intro w hSw; clear hSw; go_simp; try with_reducible rfl)
    try simp only [Act.put, List.setIfInBounds_toArray, List.set_cons_zero, List.set_cons_succ]
    refine wpAnyC_take 0 (i := 9) (v := ?_) (lv2_mono _ _) rfl (by kernel_rfl) (by kernel_rfl) (by kernel_rfl) (by kernel_rfl) (by kernel_rfl) (fun _ _ _ h => h) trivial (Or.inl ⟨by rfl, ?_⟩) ?_
    rotate_left
    · (intro w hSw; clear hSw; go_simp; try with_reducible rfl)
    try simp only [Act.put, List.setIfInBounds_toArray, List.set_cons_zero, List.set_cons_succ]
    refine wpAnyC_take 1 (i := 4) (v := ?_) (lv2_mono _ _) rfl (by kernel_rfl) (by kernel_rfl) (by kernel_rfl) (by kernel_rfl) (by kernel_rfl) (fun _ _ _ h => h) (And.left HAB) (Or.inl ⟨by rfl, ?_⟩) ?_
    rotate_left
    · (intro w hSw; have hfact : w.cell? ⟨g, 0, none⟩ = some (Value.slice (some ⟨b, 0, none⟩) ps.length cap) := hSw; clear hSw; go_simp; try with_reducible rfl)
    try simp only [Act.put, List.setIfInBounds_toArray, List.set_cons_zero, List.set_cons_succ]
    refine wpAnyC_take 0 (i := 6) (v := ?_) (lv2_mono _ _) rfl (by kernel_rfl) (by kernel_rfl) (by kernel_rfl) (by kernel_rfl) (by kernel_rfl) (fun _ _ _ h => h) trivial (Or.inl ⟨by rfl, ?_⟩) ?_
    rotate_left
    · (intro w hSw; clear hSw; go_simp; try with_reducible rfl)
    try simp only [Act.put, List.setIfInBounds_toArray, List.set_cons_zero, List.set_cons_succ]
    refine wpAnyC_take 0 (i := 7) (v := ?_) (lv2_mono _ _) rfl (by kernel_rfl) (by kernel_rfl) (by kernel_rfl) (by kernel_rfl) (by kernel_rfl) (fun _ _ _ h => h) trivial (Or.inl ⟨by rfl, ?_⟩) ?_
    rotate_left
    · (intro w hSw; clear hSw; go_simp; try with_reducible rfl)
    try simp only [Act.put, List.setIfInBounds_toArray, List.set_cons_zero, List.set_cons_succ]
    refine wpAnyC_take 1 (i := 1) (v := ?_) (lv2_mono _ _) rfl (by kernel_rfl) (by kernel_rfl) (by kernel_rfl) (by kernel_rfl) (by kernel_rfl) (fun _ _ _ h => h) (And.left HAB) (Or.inl ⟨by rfl, ?_⟩) ?_
    rotate_left
    · (intro w hSw; have hfact : w.cell? ⟨g, 0, none⟩ = some (Value.slice (some ⟨b, 0, none⟩) ps.length cap) := hSw; clear hSw; go_simp; try with_reducible rfl)
    try simp only [Act.put, List.setIfInBounds_toArray, List.set_cons_zero, List.set_cons_succ]
    refine wpAnyC_take 2 (i := 8) (v := ?_) (lv2_mono _ _) rfl (by kernel_rfl) (by kernel_rfl) (by kernel_rfl) (by kernel_rfl) (by kernel_rfl) (fun _ _ _ h => h) HAB (Or.inl ⟨by rfl, ?_⟩) ?_
    rotate_left
    · (intro w hSw; have hfact : w.cell? ⟨b, k * 8 + 5, none⟩ = some (Value.slice An r.names.length cn) := hSw.2; clear hSw; go_simp; try with_reducible rfl)
    try simp only [Act.put, List.setIfInBounds_toArray, List.set_cons_zero, List.set_cons_succ]
    refine wpAnyC_one (i := 10) (by kernel_rfl) rfl (fun K hK => ?_)
    go_simp
    have SL := Lib.hid (SX.out.ext (Ext_alloc (.cells #[.string ⟨#[112, 49]⟩, .string ⟨#[81]⟩, .string ⟨#[122]⟩] 9) (Ext.refl _)))
    refine Shut.out hK _ _ ⟨SL.out.box.cell 0, SL.out.cellr k 5 hk (by omega) HQ.out⟩ ?_
    try simp only [Act.put, List.setIfInBounds_toArray, List.set_cons_zero, List.set_cons_succ]
    refine wpAnyC_one (i := 11) (by kernel_rfl) rfl (fun K hK => ?_)
    go_simp
    go_at_call 26
    refine (l1StrBox_c [⟨#[112, 49]⟩, ⟨#[81]⟩, ⟨#[122]⟩] (by simp) (by simp) 3 rfl #[.string ⟨#[112, 49]⟩, .string ⟨#[81]⟩, .string ⟨#[122]⟩] rfl wb _ p A l c hA _ SL.out.cur (by first | exact Box.new' _ _ _ _ rfl | exact Box.newd' _ _ _ _ rfl)).mono ?_
    rintro _ w5 ⟨x, hx, rfl, hC5, hg5⟩
    have HX := Lib.hid hx
    clear hx
    have S5 := Lib.hid (DS.moved SL.out hC5 hg5)
    clear hC5 hg5
    refine Shut.out hK _ _ ⟨S5.out.box.cell 0, S5.out.cellr k 5 hk (by omega) HQ.out⟩ ?_
    try simp only [Act.put, List.setIfInBounds_toArray, List.set_cons_zero, List.set_cons_succ]
    refine wpAnyC_one (i := 12) (by kernel_rfl) rfl (fun K hK => ?_)
    go_simp
    have S5' := Lib.hid (S5.out.ext (Ext_alloc (.cells #[.string x] 9) (Ext.refl _)))
    refine Shut.out hK _ _ ⟨S5'.out.box.cell 0, S5'.out.cellr k 5 hk (by omega) HQ.out⟩ ?_
    try simp only [Act.put, List.setIfInBounds_toArray, List.set_cons_zero, List.set_cons_succ]
    refine wpAnyC_one (i := 13) (by kernel_rfl) rfl (fun K hK => ?_)
    refine step_appG rfl (.tmp 110) (.tmp 114) _ rfl E_str (by omega) wb _ vstr (fun _ => rfl) (Value.slice An r.names.length cn) rfl (some ⟨w5.heap.size, 0, none⟩) 1 1 rfl r.names [x] (S5'.out.rule k hk HQ.out).n S5'.out.cur.2.1 rfl (fun _ => ⟨_, rfl, fun j u hu => (World.cell?_alloc_at' w5 [.string x] 9 j).trans (hu)⟩) (HBn.out _) ?_
    intro v7 w7 ho7 he7 hv7 hg7
    obtain ⟨A7, c7, hsh, _⟩ := OwnL.rd ho7 (HLn.out _)
    replace hsh : v7 = .slice A7 (r.names.length + 1) c7 := (by rw [hsh, List.length_append]; rfl)
    subst hsh
    obtain ⟨⟨z7, y7, g7⟩, M7⟩ := S5'.out.app_n' k hk HQ.out ho7 he7 hv7 hg7
    have z7 : w7.cell? ⟨b, k * 8 + 5, none⟩ = some (Value.slice An r.names.length cn) := z7
    clear ho7 he7 hv7 hg7
    have M7 := Lib.hid M7
    refine Shut.out hK _ _ g7 ?_
    try simp only [Act.put, List.setIfInBounds_toArray, List.set_cons_zero, List.set_cons_succ]
    refine wpAnyC_one (i := 14) (by kernel_rfl) rfl (fun K hK => ?_)
    go_simp
    refine Shut.out hK _ _ trivial ?_
    try simp only [Act.put, List.setIfInBounds_toArray, List.set_cons_zero, List.set_cons_succ]
    refine wpAnyC_one (i := 15) (by kernel_rfl) rfl (fun K hK => ?_)
    go_simp
    refine Shut.out hK _ _ trivial ?_
    try simp only [Act.put, List.setIfInBounds_toArray, List.set_cons_zero, List.set_cons_succ]
    refine wpAnyC_one (i := 16) (by kernel_rfl) rfl (fun K hK => ?_)
    go_simp
    refine Shut.out hK _ _ trivial ?_
    try simp only [Act.put, List.setIfInBounds_toArray, List.set_cons_zero, List.set_cons_succ]
    refine wpAnyC_done (by kernel_rfl) ?_ _
    have cg : _ = some (Value.slice (some ⟨b, 0, none⟩) ps.length cap) := M7.out.box.cell 0
    have cr0 : _ = some (Value.slice none 0 0) := M7.out.res.cell 0
    have yr0 := M7.out.res.free 0
    have OUT := Lib.hid (DS.finish M7.out hbw)
    have z9 : (World.setCell (w7.setCell ⟨b, k * 8 + 5, none⟩ (.slice A7 (r.names.length + 1) c7)) ⟨w.heap.size, 0, none⟩ (Value.slice (some ⟨b, 0, none⟩) ps.length cap)).cell? ⟨w.heap.size, 0, none⟩ = some (Value.slice (some ⟨b, 0, none⟩) ps.length cap) := World.cell?_setCell_same _ _ _ cr0
    have HSE := Lib.hid (SmD_set (k := k) (p' := ⟨{ r with names := r.names ++ [x] }, .slice Ab r.bytes.length cb, (.slice A7 (r.names.length + 1) c7), .slice At r.tags.length ct, .slice Ak r.kids.length ck⟩) HSM.out (⟨HSR.out.nm, by have := HSL.out.lens; (try dsimp only); simp only [List.length_append, List.length_singleton]; omega, fun z hz => (List.mem_append.1 hz).elim (fun h => HSR.out.nms z h) (fun h => by have h9 := HX.out; simp only [List.mem_cons, List.not_mem_nil, or_false] at h9; rw [List.mem_singleton.1 h]; rcases h9 with rfl | rfl | rfl <;> decide), HSR.out.kind, HSR.out.ints⟩))
    clear M7
    go_wp2
    refine bodyPost_ret (v := vdesc (Value.slice (some ⟨b, 0, none⟩) ps.length cap)) (by simp [results, Try.results40, go_sem, z9, vdesc]) rfl ?_
    have HLN : Hid ((ps.set k (⟨{ r with names := r.names ++ [x] }, .slice Ab r.bytes.length cb, (.slice A7 (r.names.length + 1) c7), .slice At r.tags.length ct, .slice Ak r.kids.length ck⟩)).length ≤ 6) := by show _ ≤ _; simp; omega
    first
      | exact ⟨_, _, rfl, ⟨HSE.out, OUT.out.1, OUT.out.2.1⟩, HLN.out, OUT.out.2.2.1, OUT.out.2.2.2⟩
      | exact ⟨_, rfl, _, ⟨HSE.out, OUT.out.1, OUT.out.2.1⟩, HLN.out, OUT.out.2.2.1, OUT.out.2.2.2⟩
  · have k0 : w3.cell? ⟨b, k * 8 + 6, none⟩ = some (Value.slice At r.tags.length ct) := S3.out.cellr k 6 hk (by omega) HQ.out
    have HBn : Hid (∀ z : Int, (r.tags.length + [z].length) * 8 ≤ 140737488355328) := fun z => by have := HSR.out.lens; simp; omega
    have HLn : Hid (∀ z : Int, (r.tags ++ [z]).length ≤ 140737488351232) := fun z => by have := HSR.out.lens; simp; omega
    go_wp2_with fail
    have HAB : lv2 (fun w' => w'.cell? ⟨g, 0, none⟩ = some (Value.slice (some ⟨b, 0, none⟩) ps.length cap)) (fun w' => w'.cell? ⟨b, k * 8 + 6, none⟩ = some (Value.slice At r.tags.length ct)) 2 w3.drew := ⟨SX.out.box.cell 0, SX.out.cellr k 6 hk (by omega) HQ.out⟩
    refine wp_region_C (C := fun j => lv2 (fun w' => w'.cell? ⟨g, 0, none⟩ = some (Value.slice (some ⟨b, 0, none⟩) ps.length cap)) (fun w' => w'.cell? ⟨b, k * 8 + 6, none⟩ = some (Value.slice At r.tags.length ct)) (([0, 1, 0, 0, 1, 0, 0, 0, 2, 0, 2, 2, 2, 1, 0, 0, 0] : List Nat).getD j 0)) (by kernel_rfl) ?_
    refine wpAnyC_take 0 (i := 0) (v := ?_) (lv2_mono _ _) rfl (by kernel_rfl) (by kernel_rfl) (by kernel_rfl) (by kernel_rfl) (by kernel_rfl) (fun _ _ _ h => h) trivial (Or.inl ⟨by rfl, ?_⟩) ?_
    rotate_left
    · (intro w hSw; clear hSw; go_simp; try with_reducible rfl)
    try simp only [Act.put, List.setIfInBounds_toArray, List.set_cons_zero, List.set_cons_succ]
    refine wpAnyC_take 0 (i := 2) (v := ?_) (lv2_mono _ _) rfl (by kernel_rfl) (by kernel_rfl) (by kernel_rfl) (by kernel_rfl) (by kernel_rfl) (fun _ _ _ h => h) trivial (Or.inl ⟨by rfl, ?_⟩) ?_
    rotate_left
    · (intro w hSw; clear hSw; go_simp; try with_reducible rfl)
    try simp only [Act.put, List.setIfInBounds_toArray, List.set_cons_zero, List.set_cons_succ]
    refine wpAnyC_take 0 (i := 3) (v := ?_) (lv2_mono _ _) rfl (by kernel_rfl) (by kernel_rfl) (by kernel_rfl) (by kernel_rfl) (by kernel_rfl) (fun _ _ _ h => h) trivial (Or.inl ⟨by rfl, ?_⟩) ?_
    rotate_left
    · (intro w hSw; clear hSw; go_simp; try with_reducible rfl)
    try simp only [Act.put, List.setIfInBounds_toArray, List.set_cons_zero, List.set_cons_succ]
    refine wpAnyC_take 0 (i := 5) (v := ?_) (lv2_mono _ _) rfl (by kernel_rfl) (by kernel_rfl) (by kernel_rfl) (by kernel_rfl) (by kernel_rfl) (fun _ _ _ h => h) trivial (Or.inl ⟨by rfl, ?_⟩) ?_
    rotate_left
    · (intro w hSw; clear hSw; go_simp; try with_reducible rfl)
    try simp only [Act.put, List.setIfInBounds_toArray, List.set_cons_zero, List.set_cons_succ]
    refine wpAnyC_take 0 (i := 9) (v := ?_) (lv2_mono _ _) rfl (by kernel_rfl) (by kernel_rfl) (by kernel_rfl) (by kernel_rfl) (by kernel_rfl) (fun _ _ _ h => h) trivial (Or.inl ⟨by rfl, ?_⟩) ?_
    rotate_left
    · (intro w hSw; clear hSw; go_simp; try with_reducible rfl)
    try simp only [Act.put, List.setIfInBounds_toArray, List.set_cons_zero, List.set_cons_succ]
    refine wpAnyC_take 1 (i := 4) (v := ?_) (lv2_mono _ _) rfl (by kernel_rfl) (by kernel_rfl) (by kernel_rfl) (by kernel_rfl) (by kernel_rfl) (fun _ _ _ h => h) (And.left HAB) (Or.inl ⟨by rfl, ?_⟩) ?_
    rotate_left
    · (intro w hSw; have hfact : w.cell? ⟨g, 0, none⟩ = some (Value.slice (some ⟨b, 0, none⟩) ps.length cap) := hSw; clear hSw; go_simp; try with_reducible rfl)
    try simp only [Act.put, List.setIfInBounds_toArray, List.set_cons_zero, List.set_cons_succ]
    refine wpAnyC_take 0 (i := 6) (v := ?_) (lv2_mono _ _) rfl (by kernel_rfl) (by kernel_rfl) (by kernel_rfl) (by kernel_rfl) (by kernel_rfl) (fun _ _ _ h => h) trivial (Or.inl ⟨by rfl, ?_⟩) ?_
    rotate_left
    · (intro w hSw; clear hSw; go_simp; try with_reducible rfl)
    try simp only [Act.put, List.setIfInBounds_toArray, List.set_cons_zero, List.set_cons_succ]
    refine wpAnyC_take 0 (i := 7) (v := ?_) (lv2_mono _ _) rfl (by kernel_rfl) (by kernel_rfl) (by kernel_rfl) (by kernel_rfl) (by kernel_rfl) (fun _ _ _ h => h) trivial (Or.inl ⟨by rfl, ?_⟩) ?_
    rotate_left
    · (intro w hSw; clear hSw; go_simp; try with_reducible rfl)
    try simp only [Act.put, List.setIfInBounds_toArray, List.set_cons_zero, List.set_cons_succ]
    refine wpAnyC_take 1 (i := 1) (v := ?_) (lv2_mono _ _) rfl (by kernel_rfl) (by kernel_rfl) (by kernel_rfl) (by kernel_rfl) (by kernel_rfl) (fun _ _ _ h => h) (And.left HAB) (Or.inl ⟨by rfl, ?_⟩) ?_
    rotate_left
    · (intro w hSw; have hfact : w.cell? ⟨g, 0, none⟩ = some (Value.slice (some ⟨b, 0, none⟩) ps.length cap) := hSw; clear hSw; go_simp; try with_reducible rfl)
    try simp only [Act.put, List.setIfInBounds_toArray, List.set_cons_zero, List.set_cons_succ]
    refine wpAnyC_take 2 (i := 8) (v := ?_) (lv2_mono _ _) rfl (by kernel_rfl) (by kernel_rfl) (by kernel_rfl) (by kernel_rfl) (by kernel_rfl) (fun _ _ _ h => h) HAB (Or.inl ⟨by rfl, ?_⟩) ?_
    rotate_left
    · (intro w hSw; have hfact : w.cell? ⟨b, k * 8 + 6, none⟩ = some (Value.slice At r.tags.length ct) := hSw.2; clear hSw; go_simp; try with_reducible rfl)
    try simp only [Act.put, List.setIfInBounds_toArray, List.set_cons_zero, List.set_cons_succ]
    refine wpAnyC_one (i := 10) (by kernel_rfl) rfl (fun K hK => ?_)
    go_simp
    have SL := Lib.hid (SX.out.ext (Ext_alloc (.cells #[.int .i64 (-1), .int .i64 0, .int .i64 5, .int .i64 256, .int .i64 70000] 3) (Ext.refl _)))
    refine Shut.out hK _ _ ⟨SL.out.box.cell 0, SL.out.cellr k 6 hk (by omega) HQ.out⟩ ?_
    try simp only [Act.put, List.setIfInBounds_toArray, List.set_cons_zero, List.set_cons_succ]
    refine wpAnyC_one (i := 11) (by kernel_rfl) rfl (fun K hK => ?_)
    go_simp
    go_at_call 38
    refine (l1IntBox_c [-1, 0, 5, 256, 70000] (by simp) (by simp) 5 rfl #[.int .i64 (-1), .int .i64 0, .int .i64 5, .int .i64 256, .int .i64 70000] rfl wb _ p A l c hA _ SL.out.cur (by first | exact Box.new' _ _ _ _ rfl | exact Box.newd' _ _ _ _ rfl)).mono ?_
    rintro _ w5 ⟨x, hx, rfl, hC5, hg5⟩
    have HX := Lib.hid hx
    clear hx
    have S5 := Lib.hid (DS.moved SL.out hC5 hg5)
    clear hC5 hg5
    refine Shut.out hK _ _ ⟨S5.out.box.cell 0, S5.out.cellr k 6 hk (by omega) HQ.out⟩ ?_
    try simp only [Act.put, List.setIfInBounds_toArray, List.set_cons_zero, List.set_cons_succ]
    refine wpAnyC_one (i := 12) (by kernel_rfl) rfl (fun K hK => ?_)
    go_simp
    have S5' := Lib.hid (S5.out.ext (Ext_alloc (.cells #[.int .i64 x] 3) (Ext.refl _)))
    refine Shut.out hK _ _ ⟨S5'.out.box.cell 0, S5'.out.cellr k 6 hk (by omega) HQ.out⟩ ?_
    try simp only [Act.put, List.setIfInBounds_toArray, List.set_cons_zero, List.set_cons_succ]
    refine wpAnyC_one (i := 13) (by kernel_rfl) rfl (fun K hK => ?_)
    refine step_appG rfl (.tmp 128) (.tmp 132) _ rfl E_int (by omega) wb _ vint (fun _ => rfl) (Value.slice At r.tags.length ct) rfl (some ⟨w5.heap.size, 0, none⟩) 1 1 rfl r.tags [x] (S5'.out.rule k hk HQ.out).t S5'.out.cur.2.1 rfl (fun _ => ⟨_, rfl, fun j u hu => (World.cell?_alloc_at' w5 [.int .i64 x] 3 j).trans (hu)⟩) (HBn.out _) ?_
    intro v7 w7 ho7 he7 hv7 hg7
    obtain ⟨A7, c7, hsh, _⟩ := OwnL.rd ho7 (HLn.out _)
    replace hsh : v7 = .slice A7 (r.tags.length + 1) c7 := (by rw [hsh, List.length_append]; rfl)
    subst hsh
    obtain ⟨⟨z7, y7, g7⟩, M7⟩ := S5'.out.app_t' k hk HQ.out ho7 he7 hv7 hg7
    have z7 : w7.cell? ⟨b, k * 8 + 6, none⟩ = some (Value.slice At r.tags.length ct) := z7
    clear ho7 he7 hv7 hg7
    have M7 := Lib.hid M7
    refine Shut.out hK _ _ g7 ?_
    try simp only [Act.put, List.setIfInBounds_toArray, List.set_cons_zero, List.set_cons_succ]
    refine wpAnyC_one (i := 14) (by kernel_rfl) rfl (fun K hK => ?_)
    go_simp
    refine Shut.out hK _ _ trivial ?_
    try simp only [Act.put, List.setIfInBounds_toArray, List.set_cons_zero, List.set_cons_succ]
    refine wpAnyC_one (i := 15) (by kernel_rfl) rfl (fun K hK => ?_)
    go_simp
    refine Shut.out hK _ _ trivial ?_
    try simp only [Act.put, List.setIfInBounds_toArray, List.set_cons_zero, List.set_cons_succ]
    refine wpAnyC_one (i := 16) (by kernel_rfl) rfl (fun K hK => ?_)
    go_simp
    refine Shut.out hK _ _ trivial ?_
    try simp only [Act.put, List.setIfInBounds_toArray, List.set_cons_zero, List.set_cons_succ]
    refine wpAnyC_done (by kernel_rfl) ?_ _
    have cg : _ = some (Value.slice (some ⟨b, 0, none⟩) ps.length cap) := M7.out.box.cell 0
    have cr0 : _ = some (Value.slice none 0 0) := M7.out.res.cell 0
    have yr0 := M7.out.res.free 0
    have OUT := Lib.hid (DS.finish M7.out hbw)
    have z9 : (World.setCell (w7.setCell ⟨b, k * 8 + 6, none⟩ (.slice A7 (r.tags.length + 1) c7)) ⟨w.heap.size, 0, none⟩ (Value.slice (some ⟨b, 0, none⟩) ps.length cap)).cell? ⟨w.heap.size, 0, none⟩ = some (Value.slice (some ⟨b, 0, none⟩) ps.length cap) := World.cell?_setCell_same _ _ _ cr0
    have HSE := Lib.hid (SmD_set (k := k) (p' := ⟨{ r with tags := r.tags ++ [x] }, .slice Ab r.bytes.length cb, .slice An r.names.length cn, (.slice A7 (r.tags.length + 1) c7), .slice Ak r.kids.length ck⟩) HSM.out (⟨HSR.out.nm, by have := HSL.out.lens; (try dsimp only); simp only [List.length_append, List.length_singleton]; omega, HSR.out.nms, HSR.out.kind, ⟨HSR.out.ints.1, fun z hz => (List.mem_append.1 hz).elim (fun h => HSR.out.ints.2.1 z h) (fun h => by have h9 := HX.out; simp at h9; rw [List.mem_singleton.1 h]; omega), HSR.out.ints.2.2⟩⟩))
    clear M7
    go_wp2
    refine bodyPost_ret (v := vdesc (Value.slice (some ⟨b, 0, none⟩) ps.length cap)) (by simp [results, Try.results40, go_sem, z9, vdesc]) rfl ?_
    have HLN : Hid ((ps.set k (⟨{ r with tags := r.tags ++ [x] }, .slice Ab r.bytes.length cb, .slice An r.names.length cn, (.slice A7 (r.tags.length + 1) c7), .slice Ak r.kids.length ck⟩)).length ≤ 6) := by show _ ≤ _; simp; omega
    first
      | exact ⟨_, _, rfl, ⟨HSE.out, OUT.out.1, OUT.out.2.1⟩, HLN.out, OUT.out.2.2.1, OUT.out.2.2.2⟩
      | exact ⟨_, rfl, _, ⟨HSE.out, OUT.out.1, OUT.out.2.1⟩, HLN.out, OUT.out.2.2.1, OUT.out.2.2.2⟩
  · have cr0 : _ = some (Value.slice none 0 0) := S3.out.res.cell 0
    have yr0 := S3.out.res.free 0
    have OUT : Hid (Cur wb (w3.setCell ⟨w.heap.size, 0, none⟩ (.slice none 0 0)) p A l c ∧ w.grownBy (w3.setCell ⟨w.heap.size, 0, none⟩ (.slice none 0 0)) (some p)) :=
      ⟨S3.out.cur.set (a := ⟨w.heap.size, 0, none⟩) (fun hh => S3.out.pR hh.symm) hbw _, grown_new (a := ⟨w.heap.size, 0, none⟩) S3.out.grow (Nat.le_refl _) _⟩
    have z9 : (w3.setCell ⟨w.heap.size, 0, none⟩ (.slice none 0 0)).cell? ⟨w.heap.size, 0, none⟩ = some (.slice none 0 0) := World.cell?_setCell_same _ _ _ cr0
    clear S3 SX
    go_wp2
    exact bodyPost_ret (v := vdesc (.slice none 0 0)) (by simp [results, Try.results40, go_sem, z9, vdesc]) rfl ⟨.slice none 0 0, [], rfl, ⟨⟨by simp [rulesOf], by simp [rulesOf]⟩, ⟨⟨by simp, .inl ⟨rfl, rfl⟩⟩, by simp, Far.one _⟩, by simp [Value.ownBlock]⟩, by simp, OUT.out.1, OUT.out.2⟩
  · have M7 : Hid (DS wb w w3 p A l c g (.slice (some ⟨b, 0, none⟩) ps.length cap) (ps.set k ⟨r, .slice Ab r.bytes.length cb, .slice An r.names.length cn, .slice At r.tags.length ct, .slice Ak r.kids.length ck⟩) w.heap.size) := by
      show DS _ _ _ _ _ _ _ _ _ _ _
      rw [← HQ.out, List.set_getElem_self hk]; exact S3.out
    clear S3 SX
    have cg : _ = some (Value.slice (some ⟨b, 0, none⟩) ps.length cap) := M7.out.box.cell 0
    have cr0 : _ = some (Value.slice none 0 0) := M7.out.res.cell 0
    have yr0 := M7.out.res.free 0
    have OUT := Lib.hid (DS.finish M7.out hbw)
    have z9 : (World.setCell (w3) ⟨w.heap.size, 0, none⟩ (Value.slice (some ⟨b, 0, none⟩) ps.length cap)).cell? ⟨w.heap.size, 0, none⟩ = some (Value.slice (some ⟨b, 0, none⟩) ps.length cap) := World.cell?_setCell_same _ _ _ cr0
    have HSE := Lib.hid (SmD_set (k := k) (p' := ⟨r, .slice Ab r.bytes.length cb, .slice An r.names.length cn, .slice At r.tags.length ct, .slice Ak r.kids.length ck⟩) HSM.out (⟨HSR.out.nm, HSR.out.lens, HSR.out.nms, HSR.out.kind, HSR.out.ints⟩))
    clear M7
    go_wp2
    refine bodyPost_ret (v := vdesc (Value.slice (some ⟨b, 0, none⟩) ps.length cap)) (by simp [results, Try.results40, go_sem, z9, vdesc]) rfl ?_
    have HLN : Hid ((ps.set k (⟨r, .slice Ab r.bytes.length cb, .slice An r.names.length cn, .slice At r.tags.length ct, .slice Ak r.kids.length ck⟩)).length ≤ 6) := by show _ ≤ _; simp; omega
    first
      | exact ⟨_, _, rfl, ⟨HSE.out, OUT.out.1, OUT.out.2.1⟩, HLN.out, OUT.out.2.2.1, OUT.out.2.2.2⟩
      | exact ⟨_, rfl, _, ⟨HSE.out, OUT.out.1, OUT.out.2.1⟩, HLN.out, OUT.out.2.2.1, OUT.out.2.2.2⟩
end Go.Proofs.Ytophjmphjdhjoaa
