/- CopyValue of the reference: the walk; what its region that draws leaves. -/
import Derived.Test.YtjckcbfpejcpcaaGreatDoorZCz2
import Derived.Deep.RegionHeld3
import Derived.Deep.DeepCutAuto
set_option linter.unusedVariables false
set_option linter.unusedSimpArgs false
namespace Go.Proofs.YtjckcbfpejcpcaaGreatDoor
open Go.RowKit Go.Sort

section
variable {P : Program} {ops : Array Oper} {o : Oper} {a : Act} {Q : Exit → Act → World → Prop} {K : Act → World → Prop} {E : Prop}
/-- append(s, ys...) in a region that draws, with what becomes of the block -/
theorem step_appH (hgd : o.guard = none) (s x : Operand) (t : TypeId) (ho : o.op = .call { callee := .builtin .append, args := #[s, x], argTypes := #[t, t] })
    {e : TypeId} {bytes : Nat} {z : Value} (hE : Elem P t e 1 bytes z) (hby : 1 ≤ bytes) (w0 w : World) {α : Type} (f : α → Value) (hf : ∀ x, (f x).oneCell' = true) (v : Value) (hs : a.eval s = v) (A : Option Addr) (m c : Nat) (hx : a.eval x = .slice A m c)
    (l ys : List α) (hown : OwnL f e w0 w v l) (he : Ext w0 w) (hm : m = ys.length)
    (hA : 0 < ys.length → ∃ ad, A = some ad ∧ ∀ j u, (ys.map f)[j]? = some u → w.cell? (ad.add j) = some u)
    (hb : (l.length + ys.length) * bytes ≤ 140737488355328)
    (h : ∀ v' w', OwnL f e w0 w' v' (l ++ ys) → Ext w0 w' → (v'.ownBlock = v.ownBlock ∨ v'.ownBlock = some w.heap.size) → w.grownBy w' v.ownBlock → K (a.put o.dst v') w') :
    if Region.wanted o (yielded ops a.tmps) = true then Oper.wp P o a w K Q else E := by
  have hw : Region.wanted o (yielded ops a.tmps) = true := by simp [Region.wanted, hgd]
  rw [if_pos hw]
  obtain ⟨i0, hi0, hz0, hz1, hz2⟩ := info_parts hE.hi
  subst hm
  have hfin : ∀ v' w', Own e 1 w0 w' v' (l.length + ys.length) (l.map f ++ ys.map f) → Ext w0 w' → (v'.ownBlock = v.ownBlock ∨ v'.ownBlock = some w.heap.size) → w.grownBy w' v.ownBlock → K (a.put o.dst v') w' := fun v' w' h1 h2 h3 h4 => h v' w' (by simpa [OwnL] using h1) h2 h3 h4
  rcases A with _ | ad
  · have hm0 : ys.length = 0 := by
      rcases Nat.eq_zero_or_pos ys.length with h0 | h0
      · exact h0
      · obtain ⟨ad, h, _⟩ := hA h0
        cases h
    obtain rfl : ys = [] := List.eq_nil_of_length_eq_zero hm0
    unfold Oper.wp execOp
    simp only [ho, resolve, invoke, builtin, Sem.run_bind, Sem.run_pure, Result.andThen_ok, List.map_toArray, List.map_cons, List.map_nil, List.length_nil, hs, hx, run_app_nil w w0.heap.size t o.type e i0 1 hE.ht hi0 v l.length (l.map f) hown c]
    exact hfin v w (by have h' := hown; unfold OwnL at h'; simpa using h') he (.inl rfl) (World.grownBy.refl w _)
  · obtain ⟨v', w', hr, h2, h3, h4, h5⟩ := run_append_own_at (P := P) w w0.heap.size t o.type e i0 z 1 bytes hE.ht hi0 hz0 hz1 hz2 hE.hz hE.hs v l.length (l.map f) hown ad ys.length c (ys.map f) (by simp)
      (fun j u hu => by
        rcases Nat.eq_zero_or_pos ys.length with h0 | h0
        · obtain rfl : ys = [] := List.eq_nil_of_length_eq_zero h0
          simp at hu
        · obtain ⟨ad', h', hc⟩ := hA h0
          injection h' with h'
          subst h'
          exact hc j u hu)
      (fun u hu => by obtain ⟨x, _, rfl⟩ := List.mem_map.1 hu; exact hf x) (by have := Nat.mul_le_mul_left (l.length + ys.length) hby; simp only [maxLen]; omega) hb he.size
    unfold Oper.wp execOp
    simp only [ho, resolve, invoke, builtin, Sem.run_bind, Sem.run_pure, Result.andThen_ok, List.map_toArray, List.map_cons, List.map_nil, hs, hx, hr]
    exact hfin v' w' h2 (he.grown h3 (fun k hk => (hown.lt k hk).1)) h5 h3
end

theorem own_nb' {v4 : Value} {a b n : Nat} (h : v4.ownBlock = (Value.slice (some ⟨a, 0, none⟩) 0 0).ownBlock ∨ v4.ownBlock = some n) (h1 : a ≠ b) (h2 : n ≠ b) : v4.ownBlock ≠ some b := by
  intro hh
  rcases h with h | h
  · have : some b = some a := hh.symm.trans h
    injection this with this; exact h1 this.symm
  · have : some b = some n := hh.symm.trans h
    injection this with this; exact h2 this.symm
/-- a value's struct, laid into a block of its own by three stores -/
theorem val_laid {W2 w4 : World} {g : Nat} {num : Int} {v v2 : Value} {l : List UInt8} (hb : Box w4 g #[.int .i64 0, .slice none 0 0, .slice none 0 0] 39) (ho : OwnL vu8 5 W2 w4 v l) (hne : v.ownBlock ≠ some g) (hg : W2.heap.size ≤ g) (he : Ext W2 w4) :
    Box (((w4.setCell ⟨g, 0, none⟩ (.int .i64 num)).setCell ⟨g, 1, none⟩ v).setCell ⟨g, 2, none⟩ v2) g #[.int .i64 num, v, v2] 39 ∧ OwnL vu8 5 W2 (((w4.setCell ⟨g, 0, none⟩ (.int .i64 num)).setCell ⟨g, 1, none⟩ v).setCell ⟨g, 2, none⟩ v2) v l ∧ W2.heap.size ≤ g ∧ Ext W2 (((w4.setCell ⟨g, 0, none⟩ (.int .i64 num)).setCell ⟨g, 1, none⟩ v).setCell ⟨g, 2, none⟩ v2) := by
  refine ⟨?_, ((ho.other ⟨g, 0, none⟩ _ hne).other ⟨g, 1, none⟩ _ hne).other ⟨g, 2, none⟩ _ hne, hg, ((he.setCell (p := ⟨g, 0, none⟩) hg _).setCell (p := ⟨g, 1, none⟩) hg _).setCell (p := ⟨g, 2, none⟩) hg _⟩
  have := ((hb.set 0 (.int .i64 num)).set 1 v).set 2 v2
  simpa using this

theorem OwnTs.snoc {W0 wr w2 w4 : World} {v v' : Value} {ps : List VT} {p : VT} (h : OwnTs W0 wr v ps) (e2 : Ext wr w2) (hro : OwnT wr w2 p) (hfr : Far p.vals) (hb : W0.heap.size ≤ wr.heap.size) {cs : Array Value} {T : TypeId}
    (ho4 : Own 39 3 W0 w4 v' (ps.length + 1) (ps.flatMap VT.cells ++ p.cells)) (hg4 : (w2.alloc (.cells cs T)).grownBy w4 v.ownBlock) (hv : v'.ownBlock = v.ownBlock ∨ v'.ownBlock = some (w2.alloc (.cells cs T)).heap.size) : OwnTs W0 w4 v' (ps ++ [p]) := by
  have ex := Ext_alloc (.cells cs T) (Ext.refl w2)
  have hsz : (w2.alloc (.cells cs T)).heap.size = w2.heap.size + 1 := by simp
  have hbl := h.block
  have hfar := h.far
  unfold Far at hfar
  rw [List.pairwise_cons] at hfar
  have hs2 := e2.size
  refine ⟨?_, fun q hq => ?_, ?_⟩
  · rw [List.length_append, List.flatMap_append, List.flatMap_cons, List.flatMap_nil, List.append_nil]; exact ho4
  · rcases List.mem_append.1 hq with hq | hq
    · refine (((h.each q hq).ext e2).ext ex).keep hg4 (fun u hu g hg he => ?_)
      exact hfar.1 u (List.mem_flatMap.2 ⟨q, hq, hu⟩) g he hg
    · obtain rfl := List.mem_singleton.1 hq
      refine ((hro.ext ex).keep hg4 (fun u hu g hg he => ?_)).down hb
      have h1 := (hro.block u hu g hg).1
      have h2 := (hbl v (List.mem_cons_self ..) g he).2
      omega
  · rw [List.flatMap_append, List.flatMap_cons, List.flatMap_nil, List.append_nil]
    have hold : ∀ u ∈ ps.flatMap VT.vals, ∀ g, u.ownBlock = some g → g < wr.heap.size := fun u hu g hg => (hbl u (List.mem_cons_of_mem _ hu) g hg).2
    have hnew : ∀ u ∈ p.vals, ∀ g, u.ownBlock = some g → wr.heap.size ≤ g ∧ g < w2.heap.size := fun u hu g hg => hro.block u hu g hg
    refine Far.cons (Far.append hfar.2 hfr (fun u hu x hx g h1 h2 => by have := hold u hu g h1; have := (hnew x hx g h2).1; omega)) (fun x hx g h1 h2 => ?_)
    rcases hv with hv | hv
    · rw [hv] at h1
      rcases List.mem_append.1 hx with hx | hx
      · exact hfar.1 x hx g h1 h2
      · have := (hbl v (List.mem_cons_self ..) g h1).2; have := (hnew x hx g h2).1; omega
    · rw [hv, hsz] at h1
      injection h1 with h1
      rcases List.mem_append.1 hx with hx | hx
      · have := hold x hx g h2; omega
      · have := (hnew x hx g h2).2; omega
theorem OwnT.one {w0 w : World} {t : VT} (h : OwnT w0 w t) : ∀ u ∈ t.cells, u.oneCell' = true := by
  obtain ⟨A, c, e1⟩ := Own.shape (show Own _ 1 w0 w t.vb t.bs.length _ from h.b)
  obtain ⟨A', c', e2⟩ := Own.shape h.i
  exact VT.one (by rw [e1]; rfl) (by rw [e2]; rfl)
theorem OwnTs.nil (w0 w : World) : OwnTs w0 w (.slice none 0 0) [] := ⟨⟨by simp, .inl ⟨rfl, rfl⟩⟩, fun p hp => by simp at hp, Far.one _⟩
theorem size_drew' (w : World) : w.drew.heap.size = w.heap.size := rfl
def sCopyOk (v : DVal) : Prop := ∀ (Ab : Option Addr) (cb : Nat) (Ai : Option Addr) (ci : Nat) (w : World), RdV w v Ab cb Ai ci → szV v ≤ 1099511627776 →
  Calls Tryz.prog 58 #[vval v (.slice Ab v.bytes.length cb) (.slice Ai v.items.length ci)] w fun e w' => ∃ t, e = .returned (vval v t.vb t.vi) ∧ GotV w w' t v ∧ Ext w w'
set_option maxRecDepth 100000 in
set_option maxHeartbeats 8000000 in
theorem sCopy_of (v : DVal) (H : ∀ x ∈ v.items, sCopyOk x) : sCopyOk v := by
  intro Ab cb Ai ci w h hz
  obtain ⟨hb, hi⟩ := h
  have z1 : v.bytes.length ≤ 1099511627776 := by have := bytes_le v; omega
  have HZ : Hid (∀ x ∈ v.items, szV x ≤ 1099511627776) := fun x hx => by have := szV_item hx; omega
  have hn : v.items.length ≤ 1099511627776 := by have := items_le v; omega
  have HH := Lib.hid H
  have HDV : Hid (DVal.mk v.num v.bytes v.items = v) := v.eta
  unfold vval
  generalize v.num = num at *
  generalize v.bytes = bytes at *
  generalize v.items = items at *
  clear H
  have ea := Ext_alloc (.cells #[.int .i64 num, .slice Ab bytes.length cb, .slice Ai items.length ci] 39) (Ext.refl w)
  have B0 := fun w' (e : Ext (w.alloc (.cells #[.int .i64 num, .slice Ab bytes.length cb, .slice Ai items.length ci] 39)) w') => boxed e
  obtain ⟨W1, hW1⟩ : ∃ W1, W1 = w.alloc (.cells #[.int .i64 num, .slice Ab bytes.length cb, .slice Ai items.length ci] 39) := ⟨_, rfl⟩
  have HW1 := Lib.hid hW1
  have hs1 : W1.heap.size = w.heap.size + 1 := by rw [hW1]; simp
  rw [← hW1] at ea B0
  have ey := Ext_alloc (.cells #[.int .i64 0, .slice none 0 0, .slice none 0 0] 39) (Ext.refl W1)
  have BR := Box.new W1 #[.int .i64 0, .slice none 0 0, .slice none 0 0] 39
  rw [hs1] at BR
  obtain ⟨W2, hW2⟩ : ∃ W2, W2 = W1.alloc (.cells #[.int .i64 0, .slice none 0 0, .slice none 0 0] 39) := ⟨_, rfl⟩
  have HW2 := Lib.hid hW2
  have hs2 : W2.heap.size = w.heap.size + 2 := by rw [hW2]; simp; omega
  rw [← hW2] at ey BR
  have HO : Hid (OwnL vu8 5 W2 (W2.alloc (.cells #[] 5)) (.slice (some ⟨w.heap.size + 2, 0, none⟩) 0 0) []) := by
    have := OwnL.empty (f := vu8) (e := 5) (Ext.refl W2)
    rw [hs2] at this
    exact this
  clear hW1 hW2
  go_enter Tryz.func58, Tryz.ntmps58
  go_wp2_with fail
  rw [← HW1.out, ← HW2.out]
  have HD := Lib.hid hb; have HEY := Lib.hid ey
  have HB2 : Hid ((([] : List UInt8).length + bytes.length) * 1 ≤ 140737488355328) := by show _ ≤ _; simp; omega
  have HDL : Hid (bytes.length ≤ 140737488351232) := by show _ ≤ _; omega
  have HBZ : Hid (∀ w4, (((W2.alloc (.cells #[] 5)).alloc (.cells #[.int .i64 0, .slice none 0 0, .slice none 0 0] 39)).drew).grownBy w4 (Value.slice (some ⟨w.heap.size + 2, 0, none⟩) 0 0).ownBlock → Box w4 (w.heap.size + 2 + 1) #[.int .i64 0, .slice none 0 0, .slice none 0 0] 39) := fun w4 hg => by
    have h1 := Box.moved ((Box.new (W2.alloc (.cells #[] 5)) #[.int .i64 0, .slice none 0 0, .slice none 0 0] 39).ext (Ext_drew (Ext.refl _))) hg (fun hh => by injection hh with hh; simp at hh; omega)
    rwa [show (W2.alloc (.cells #[] 5)).heap.size = w.heap.size + 2 + 1 by simp; omega] at h1
  have HO' : Hid (OwnL vu8 5 W2 ((W2.alloc (.cells #[.int .i64 0, .slice none 0 0, .slice none 0 0] 39)).alloc (.cells #[] 5)) (.slice (some ⟨w.heap.size + 2 + 1, 0, none⟩) 0 0) []) := by
    have := OwnL.empty (f := vu8) (e := 5) (Ext_alloc (.cells #[.int .i64 0, .slice none 0 0, .slice none 0 0] 39) (Ext.refl W2))
    rw [World.size_alloc, hs2] at this
    exact this
  have HBZ' : Hid (∀ w4, (((W2.alloc (.cells #[.int .i64 0, .slice none 0 0, .slice none 0 0] 39)).alloc (.cells #[] 5)).drew).grownBy w4 (Value.slice (some ⟨w.heap.size + 2 + 1, 0, none⟩) 0 0).ownBlock → Box w4 (w.heap.size + 2) #[.int .i64 0, .slice none 0 0, .slice none 0 0] 39) := fun w4 hg => by
    have h1 := Box.moved ((Box.new W2 #[.int .i64 0, .slice none 0 0, .slice none 0 0] 39).ext (Ext_drew (Ext_alloc (.cells #[] 5) (Ext.refl _)))) hg (fun hh => by injection hh with hh; simp at hh; omega)
    rwa [hs2] at h1
  have SX : Hid (∀ w', Ext W1 w' → ((w'.cell? ⟨w.heap.size, 0, none⟩ = some (.int .i64 num) ∧ w'.cell? ⟨w.heap.size, 1, none⟩ = some (.slice Ab bytes.length cb)) ∧ Ext W1 w')) := fun w' e => ⟨⟨B0 w' e 0, B0 w' e 1⟩, e⟩
  have HSX0 := Lib.hid B0
  have HBR := Lib.hid BR
  clear BR
  go_cut [3] (fun s3 wx => ∃ g A4 c4, s3 = .pointer (some ⟨g, 0, none⟩) ∧ Box wx g #[.int .i64 num, .slice A4 bytes.length c4, .slice none 0 0] 39 ∧ OwnL vu8 5 W2 wx (.slice A4 bytes.length c4) bytes ∧ (Value.slice A4 bytes.length c4).ownBlock ≠ some g ∧ W2.heap.size ≤ g ∧ Ext W2 wx)
  case first =>
    go_region_held3 (fun w' => (w'.cell? ⟨w.heap.size, 0, none⟩ = some (.int .i64 num) ∧ w'.cell? ⟨w.heap.size, 1, none⟩ = some (.slice Ab bytes.length cb)) ∧ Ext W1 w') (first | exact SX.out _ (Ext_drew ey) | exact SX.out _ (Ext_alloc _ (And.right (by assumption))) | exact SX.out _ (by assumption) | exact SX.out _ (Ext_alloc _ (by assumption)) | exact SX.out _ (((Ext.setCell (by assumption) (by simp; try omega) _).setCell (by simp; try omega) _).setCell (by simp; try omega) _) | exact SX.out _ (((Ext.setCell (And.right (by assumption)) (by simp; try omega) _).setCell (by simp; try omega) _).setCell (by simp; try omega) _)) (first
      | (refine step_appH rfl (.tmp 7) (.tmp 9) _ rfl E_u8 (by omega) W2 _ vu8 (fun _ => rfl) _ rfl _ _ _ rfl [] bytes (OwnL.ext HO.out (by first | exact Ext_drew (Ext.refl _) | exact Ext_drew (Ext_alloc _ (Ext.refl _)))) (by first | exact Ext_drew (Ext_alloc _ (Ext.refl _)) | exact Ext_drew (Ext_alloc _ (Ext_alloc _ (Ext.refl _)))) rfl (fun hp => src0 HD.out ((ea.trans ey).trans (by first | exact Ext_drew (Ext_alloc _ (Ext.refl _)) | exact Ext_drew (Ext_alloc _ (Ext_alloc _ (Ext.refl _))))) hp) HB2.out ?_; intro v4 w4 ho4 he4 hv4 hg4; rw [List.nil_append] at ho4; have e14 := ey.trans he4; obtain ⟨A4, c4, hvv, r4⟩ := OwnL.rd ho4 HDL.out; subst hvv; (try (have hbz := HBZ.out _ hg4; have z0 : _ = some (Value.int .i64 0) := hbz.cell 0; have z1 : _ = some (Value.slice none 0 0) := hbz.cell 1; have z2 : _ = some (Value.slice none 0 0) := hbz.cell 2; have y0 := hbz.free 0; have y1 := hbz.free 1; have y2 := hbz.free 2)))
      | (refine step_appH rfl (.tmp 7) (.tmp 9) _ rfl E_u8 (by omega) W2 _ vu8 (fun _ => rfl) _ rfl _ _ _ rfl [] bytes (OwnL.ext HO'.out (by first | exact Ext_drew (Ext.refl _) | exact Ext_drew (Ext_alloc _ (Ext.refl _)))) (by first | exact Ext_drew (Ext_alloc _ (Ext.refl _)) | exact Ext_drew (Ext_alloc _ (Ext_alloc _ (Ext.refl _)))) rfl (fun hp => src0 HD.out ((ea.trans ey).trans (by first | exact Ext_drew (Ext_alloc _ (Ext.refl _)) | exact Ext_drew (Ext_alloc _ (Ext_alloc _ (Ext.refl _))))) hp) HB2.out ?_; intro v4 w4 ho4 he4 hv4 hg4; rw [List.nil_append] at ho4; have e14 := ey.trans he4; obtain ⟨A4, c4, hvv, r4⟩ := OwnL.rd ho4 HDL.out; subst hvv; (try (have hbz := HBZ'.out _ hg4; have z0 : _ = some (Value.int .i64 0) := hbz.cell 0; have z1 : _ = some (Value.slice none 0 0) := hbz.cell 1; have z2 : _ = some (Value.slice none 0 0) := hbz.cell 2; have y0 := hbz.free 0; have y1 := hbz.free 1; have y2 := hbz.free 2))))
    all_goals
      go_wp2_with fail
      go_meet
    · exact ⟨_, _, _, rfl, Box.new w4 _ _, OwnL.ext ho4 (Ext_alloc _ (Ext.refl _)), OwnL.far ho4 (.inr (Nat.le_refl _)), he4.size, Ext_alloc _ he4⟩
    · have hne := own_nb' hv4 (b := w.heap.size + 2 + 1) (by omega) (by simp; omega)
      obtain ⟨q1, q2, q3, q4⟩ := val_laid (num := num) (v2 := .slice none 0 0) hbz ho4 hne (by omega) he4
      exact ⟨_, _, _, rfl, q1, q2, hne, q3, q4⟩
    · have hne := own_nb' hv4 (b := w.heap.size + 2) (by omega) (by simp; omega)
      obtain ⟨q1, q2, q3, q4⟩ := val_laid (num := num) (v2 := .slice none 0 0) hbz ho4 hne (by omega) he4
      exact ⟨_, _, _, rfl, q1, q2, hne, q3, q4⟩
  case rest =>
    obtain ⟨g, A4, c4, rfl, hb4, ho4, hne4, hg4, he4⟩ := hcut
    clear SX HBZ HBZ' HO HO' HB2 HD hb HDL B0
    have OD0 : Hid (OwnTs wc wc (.slice none 0 0) []) := OwnTs.nil wc wc
    have HB4 := Lib.hid hb4; have HO4 := Lib.hid ho4; have HNE := Lib.hid hne4
    have hgc := hb4.lt
    have hgw : w.heap.size + 2 ≤ g := by omega
    have HBL : Hid (∀ b, (Value.slice A4 bytes.length c4).ownBlock = some b → w.heap.size + 2 ≤ b ∧ b < wc.heap.size) := fun b hb => by have := World.ownsRow.lt ho4 b hb; omega
    have hs2' := Lib.hid hs2
    clear hb4 ho4 hne4 hg4 HW1 HW2 hs2
    go_wp2
    go_loopw [4] (fun ix wr => ∃ (k : Nat) (ps : List VT) (v : Value), k ≤ items.length ∧ ix = .int .i64 k ∧ ps.length ≤ k ∧ k ≤ ps.length ∧ Hid (valsOf ps = items.take k) ∧ Hid (OwnTs wc wr v ps) ∧ Hid (Box wr g #[.int .i64 num, .slice A4 bytes.length c4, v] 39) ∧ Hid (OwnL vu8 5 W2 wr (.slice A4 bytes.length c4) bytes) ∧ Ext W2 wr ∧ wc.heap.size ≤ wr.heap.size) (fun ix _ => items.length - (intOf ix).toNat)
    case atStart => exact ⟨0, [], _, by omega, rfl, by simp, by simp, by simp [Hid, valsOf], OD0, HB4, HO4, he4, Nat.le_refl _⟩
    case round =>
      clear OD0 HB4 HO4 he4
      obtain ⟨k, ps, v, hk, rfl, hl1, hl2, hps, hod, hbo, hby, he, hsz⟩ := hrel
      have e1 := HEY.out.trans he
      have hB := fun w' (e : Ext wr w') => HSX0.out w' (e1.trans e)
      have c2 := fun w' e => hB w' e 2
      simp only [List.getElem?_toArray, List.getElem?_cons_zero, List.getElem?_cons_succ] at c2
      clear hB
      by_cases hlt : k < items.length
      · obtain ⟨b, off, A1, c1, D1, d1, hA, hb, hs, hr⟩ := hi.at k hlt
        subst hA
        have hzk := HZ.out _ (List.getElem_mem hlt)
        have HT : Hid (items.take (k+1) = items.take k ++ [items[k]]) := List.take_succ_eq_append_getElem hlt
        have Hk := HH.out _ (List.getElem_mem hlt)
        generalize items[k] = r at *
        have C := Lib.hid (fun w h => Hk A1 c1 D1 d1 w h hzk)
        have ew := ea.trans e1
        obtain ⟨k0, k1, k2⟩ := hr
        replace k0 := fun w' (e : Ext wr w') => k0 w' (ew.trans e)
        replace k1 := fun w' (e : Ext wr w') => k1 w' (ew.trans e)
        replace k2 := fun w' (e : Ext wr w') => k2 w' (ew.trans e)
        unfold vval at C
        have cv : _ = some v := (hbo.out.ext (Ext_drew (Ext.refl wr))).cell 2
        have HS := Lib.hid (hs.ext (Ext_drew ew)); have hzk := Lib.hid hzk
        have hbod := Lib.hid (hbo.out.ext (Ext_drew (Ext.refl wr)))
        have hodd := Lib.hid (hod.out.ext (Ext_drew (Ext.refl wr)))
        have b1 : (0 : Int) ≤ (k : Int) := by omega
        have b2 : (k : Int) < (items.length : Int) := by omega
        have xd := Ext_drew (Ext.refl wr)
        clear hs Hk hi ew e1
        go_wp2_with fail
        go_region_law (first
          | (go_simp; go_at_call 58; refine (C.out _ HS.out).mono ?_; rintro _ w2 ⟨t, rfl, hgt, he2⟩; have hgt := Lib.hid hgt; have hbo3 := Lib.hid ((hbod.out.ext he2).ext (Ext_alloc (.cells #[.int .i64 r.num, t.vb, t.vi] 39) (Ext.refl w2))); have c2' : _ = some v := (hbod.out.ext he2).cell 2; have c3 : _ = some v := hbo3.out.cell 2; have hsz2 : Hid (wc.heap.size ≤ (w2.alloc (.cells #[.int .i64 r.num, t.vb, t.vi] 39)).heap.size) := (by have h1 := he2.size; rw [size_drew'] at h1; show _ ≤ _; rw [World.size_alloc]; omega); have hone : Hid (∀ u ∈ [Value.int .i64 r.num, t.vb, t.vi], u.oneCell' = true) := (by have := hgt.out.own.one; unfold VT.cells at this; rw [hgt.out.num] at this; exact this); have hNv : Hid (v.ownBlock ≠ some g) := (fun hh => by have := (hod.out.block v (List.mem_cons_self ..) _ hh).1; omega))
          | (refine step_app8 rfl (.tmp 20) (.tmp 27) _ rfl E_val wc (w2.alloc (.cells #[.int .i64 r.num, t.vb, t.vi] 39)) v ps.length (ps.flatMap VT.cells) rfl (Own.ext (Own.ext hodd.out.row he2) (Ext_alloc _ (Ext.refl _))) hsz2.out ⟨w2.heap.size, 0, none⟩ 1 1 [.int .i64 r.num, t.vb, t.vi] rfl rfl (fun j u hu => (World.cell?_alloc_at' w2 [.int .i64 r.num, t.vb, t.vi] 39 j).trans hu) hone.out (by simp [maxLen]; omega) (by omega) ?_; intro v4 w4 ho4 hg4 hv4; have hbo4 := Lib.hid (Box.moved (hbo3.out) hg4 hNv.out); have c4' := hbo4.out.cell 2; have f4 := hbo4.out.free 2; have HO4 : Hid (OwnTs wc w4 v4 (ps ++ [t])) := OwnTs.snoc hodd.out he2 hgt.out.own hgt.out.far hsz (by unfold VT.cells at ho4 ⊢; rw [hgt.out.num]; exact ho4) hg4 hv4; have HG4 := Lib.hid hg4; clear ho4 hg4 hv4; obtain ⟨A5, q5, hA5⟩ := HO4.out.shape; replace hA5 : v4 = .slice A5 (ps.length + 1) q5 := (by rw [hA5, List.length_append]; rfl); subst hA5))
        all_goals
          have x3 := Ext_alloc (.cells #[.int .i64 r.num, t.vb, t.vi] 39) (Ext.refl w2)
          have bV : ∀ b, v.ownBlock = some b → wc.heap.size ≤ b := fun b hb => (hod.out.block v (List.mem_cons_self ..) b hb).1
          have hs2'' := hs2'.out
          have e4 := (((Ext_drew he).trans he2).trans x3).grown HG4.out (fun b hb => by have := bV b hb; omega)
          have O5 : Hid (Box (w4.setCell ⟨g, 2, none⟩ (.slice A5 (ps.length + 1) q5)) g #[.int .i64 num, .slice A4 bytes.length c4, .slice A5 (ps.length + 1) q5] 39) := hbo4.out.set 2 (.slice A5 (ps.length + 1) q5)
          have D5 : Hid (OwnTs wc (w4.setCell ⟨g, 2, none⟩ (.slice A5 (ps.length + 1) q5)) (.slice A5 (ps.length + 1) q5) (ps ++ [t])) := HO4.out.keep (grown_set w4 ⟨g, 2, none⟩ _) (fun u hu b hb hh => by have h1 := (HO4.out.block u hu b hb).1; injection hh with hh; simp at hh; omega)
          have Y5 : Hid (OwnL vu8 5 W2 (w4.setCell ⟨g, 2, none⟩ (.slice A5 (ps.length + 1) q5)) (.slice A4 bytes.length c4) bytes) := (((hby.out.ext (xd.trans he2)).ext x3).keep HG4.out (fun b hb hh => by have h1 := bV b hh; have h2 := (HBL.out b hb).2; omega)).keep (grown_set w4 ⟨g, 2, none⟩ _) (fun b hb hh => by injection hh with hh; simp at hh; subst hh; exact HNE.out hb)
          have E5 : Hid (Ext W2 (w4.setCell ⟨g, 2, none⟩ (.slice A5 (ps.length + 1) q5))) := e4.setCell (p := ⟨g, 2, none⟩) (by show W2.heap.size ≤ g; omega) _
          have S5 : Hid (wc.heap.size ≤ (w4.setCell ⟨g, 2, none⟩ (.slice A5 (ps.length + 1) q5)).heap.size) := by
            have h1 := HG4.out.size; have h2 := hsz2.out
            show _ ≤ _; simp only [World.size_setCell]; omega
          have N5 : Hid (valsOf (ps ++ [t]) = items.take (k + 1)) := by show _ = _; rw [valsOf_append, hps.out, HT.out, valsOf, valsOf, hgt.out.val]
          clear x3 bV e4 hs2''
          go_wp2
          go_roundw
          case rel => exact ⟨k + 1, ps ++ [t], _, by omega, by go_num, by simp; omega, by simp; omega, N5, D5, O5, Y5, E5.out, S5.out⟩
          case measure => simp [intOf]; omega
      · obtain rfl : k = items.length := by omega
        obtain ⟨A5, c5, hA5⟩ := hod.out.shape
        have hpl : ps.length = items.length := by omega
        rw [hpl] at hA5
        subst hA5
        have HN : Hid (valsOf ps = items) := by show _ = _; rw [hps.out, List.take_length]
        have p2 := hbo.out.cell; have r2 := (HBR.out.ext he).cell; have t2 := (HBR.out.ext he).free
        have hs2'' := hs2'.out
        have G := grown_put3 wr (w.heap.size + 1) 0 (.mk num bytes (.slice A4 bytes.length c4) ps (.slice A5 items.length c5))
        have HG := Lib.hid G
        have E5 : Hid (Ext w (put3 wr (w.heap.size + 1) 0 (.mk num bytes (.slice A4 bytes.length c4) ps (.slice A5 items.length c5)))) := (ea.trans e1).grown G (fun b hb => by injection hb with hb; omega)
        have O5 : Hid (OwnT w (put3 wr (w.heap.size + 1) 0 (.mk num bytes (.slice A4 bytes.length c4) ps (.slice A5 items.length c5))) (.mk num bytes (.slice A4 bytes.length c4) ps (.slice A5 items.length c5))) := by
          have o2 := (hod.out.keep G (fun u hu b hb he => by have := hod.out.block u hu b hb; injection he with he; omega)).down (w0 := w) (by omega)
          exact .mk ((OwnL.keep hby.out G (fun b hb he => by have := HBL.out b hb; injection he with he; omega)).down (by omega)) o2.row o2.each
        have F5 : Hid (Far (VT.vals (.mk num bytes (.slice A4 bytes.length c4) ps (.slice A5 items.length c5)))) := by
          rw [VT.vals_eq]
          refine Far.cons hod.out.far ?_
          intro u hu b h1 h2
          have := HBL.out b h1
          have := (hod.out.block u hu b h2).1
          omega
        clear G hps hod hbo hby hi hs2''
        go_wp2
        exact bodyPost_ret (v := .agg #[.int .i64 num, .slice A4 bytes.length c4, .slice A5 items.length c5]) (by simp [results, Tryz.results58, go_sem, p2, r2, t2]) rfl ⟨.mk num bytes (.slice A4 bytes.length c4) ps (.slice A5 items.length c5), rfl, ⟨by rw [VT.val, HN.out]; exact HDV.out, O5.out, F5.out⟩, E5.out⟩
theorem sCopy_all : ∀ v, sCopyOk v := fun v => DVal.ind sCopy_of v
end Go.Proofs.YtjckcbfpejcpcaaGreatDoor

/- CopyValue of the program: the walk. -/
namespace Go.Proofs.YtjckcbfpejcpcaaGreatDoor
open Go.RowKit Go.Sort

theorem boxAt0 {W : World} {cs : Array Value} {T : TypeId} {n : Nat} (h : W.heap.size = n) : Box (W.alloc (.cells cs T)) n cs T := h ▸ Box.new W cs T
theorem Box.al {W : World} {cs : Array Value} {T : TypeId} {n : Nat} {o : Obj} (h : Box W n cs T) : Box (W.alloc o) n cs T := h.ext (Ext_alloc _ (Ext.refl _))
theorem Box.dr {W : World} {cs : Array Value} {T : TypeId} {n : Nat} (h : Box W n cs T) : Box W.drew n cs T := h.ext (Ext_drew (Ext.refl _))
theorem row0 {w0 w : World} {n : Nat} {α : Type} {f : α → Value} {e : TypeId} (hb : Box w n #[] e) (h : w0.heap.size ≤ n) : OwnL f e w0 w (.slice (some ⟨n, 0, none⟩) 0 0) [] :=
  ⟨by simp, .inr ⟨n, 0, #[], rfl, h, hb, by simp, by simp [maxLen], by simp, by simp⟩⟩
theorem rowN {w0 w : World} {n N size : Nat} {e : TypeId} {cs : Array Value} (hb : Box w n cs e) (hc : cs.size = N * size) (hN : N ≤ maxLen) (h : w0.heap.size ≤ n) : Own e size w0 w (.slice (some ⟨n, 0, none⟩) 0 N) 0 [] :=
  ⟨by simp, .inr ⟨n, N, cs, rfl, h, hb, by simp, hN, hc, by simp⟩⟩
/-- what the region that lays the copy leaves -/
def LaidV (W2 wx : World) (num : Int) (bytes : List UInt8) (N : Nat) (g : Nat) (v4 vM : Value) : Prop :=
  Box wx g #[.int .i64 num, v4, vM] 39 ∧ OwnL vu8 5 W2 wx v4 bytes ∧ Own 39 3 W2 wx vM 0 [] ∧ v4.ownBlock ≠ some g ∧ vM.ownBlock ≠ some g ∧ (∀ b, v4.ownBlock = some b → vM.ownBlock ≠ some b) ∧ W2.heap.size ≤ g ∧ Ext W2 wx
theorem laid_last {W2 X : World} {num : Int} {bytes : List UInt8} {N n : Nat} {v4 vM : Value} (ho : OwnL vu8 5 W2 X v4 bytes) (hM : Own 39 3 W2 X vM 0 []) (hne : ∀ b, v4.ownBlock = some b → vM.ownBlock ≠ some b) (he : Ext W2 X) (hn : X.heap.size = n) :
    LaidV W2 (X.alloc (.cells #[.int .i64 num, v4, vM] 39)) num bytes N n v4 vM := by
  subst hn
  exact ⟨Box.new X _ _, ho.ext (Ext_alloc _ (Ext.refl _)), hM.ext (Ext_alloc _ (Ext.refl _)), OwnL.far ho (.inr (Nat.le_refl _)), fun hh => absurd (World.ownsRow.lt hM _ hh).2 (Nat.lt_irrefl _), hne, he.size, Ext_alloc _ he⟩
theorem laid_set {W2 X : World} {num : Int} {bytes : List UInt8} {N g : Nat} {v4 vM : Value} (hb : Box X g #[.int .i64 0, .slice none 0 0, .slice none 0 0] 39) (ho : OwnL vu8 5 W2 X v4 bytes) (hM : Own 39 3 W2 X vM 0 [])
    (h1 : v4.ownBlock ≠ some g) (h2 : vM.ownBlock ≠ some g) (hne : ∀ b, v4.ownBlock = some b → vM.ownBlock ≠ some b) (hg : W2.heap.size ≤ g) (he : Ext W2 X) :
    LaidV W2 (((X.setCell ⟨g, 0, none⟩ (.int .i64 num)).setCell ⟨g, 1, none⟩ v4).setCell ⟨g, 2, none⟩ vM) num bytes N g v4 vM := by
  obtain ⟨q1, q2, q3, q4⟩ := val_laid (num := num) (v2 := vM) hb ho h1 hg he
  exact ⟨q1, q2, ((Own.other hM ⟨g, 0, none⟩ _ h2).other ⟨g, 1, none⟩ _ h2).other ⟨g, 2, none⟩ _ h2, h1, h2, hne, q3, q4⟩
theorem row_ne {n m k N : Nat} (h : n ≠ m) : (Value.slice (some ⟨n, 0, none⟩) k N).ownBlock ≠ some m := by
  intro hh
  have : some n = some m := hh
  injection this with this; exact h this
theorem laidF {W2 w4 : World} {num : Int} {bytes : List UInt8} {N g n1 : Nat} {v4 : Value} {CS : Array Value} (hb : Box w4 g #[.int .i64 0, .slice none 0 0, .slice none 0 0] 39) (ho : OwnL vu8 5 W2 w4 v4 bytes) (hne : v4.ownBlock ≠ some g) (hg : W2.heap.size ≤ g) (he : Ext W2 w4) (hc : CS.size = N * 3) (hN : N ≤ 1048576) (h1 : w4.heap.size = n1) :
    LaidV W2 ((((w4.alloc (.cells CS 39)).setCell ⟨g, 0, none⟩ (.int .i64 num)).setCell ⟨g, 1, none⟩ v4).setCell ⟨g, 2, none⟩ (.slice (some ⟨n1, 0, none⟩) 0 N)) num bytes N g v4 (.slice (some ⟨n1, 0, none⟩) 0 N) := by
  subst h1
  exact laid_set hb.al (OwnL.ext ho (Ext_alloc _ (Ext.refl _))) (rowN (Box.new _ _ _) hc (by simp only [maxLen]; omega) he.size) hne (row_ne (by have := hb.lt; omega)) (fun b hb => row_ne (by have := (World.ownsRow.lt ho b hb).2; omega)) hg (Ext_alloc _ he)
theorem laidB {W2 w4 : World} {num : Int} {bytes : List UInt8} {N n1 n2 : Nat} {v4 : Value} {CS : Array Value} (ho : OwnL vu8 5 W2 w4 v4 bytes) (he : Ext W2 w4) (hc : CS.size = N * 3) (hN : N ≤ 1048576) (h1 : w4.heap.size = n1) (h2 : n1 + 1 = n2) :
    LaidV W2 ((w4.alloc (.cells CS 39)).alloc (.cells #[.int .i64 num, v4, .slice (some ⟨n1, 0, none⟩) 0 N] 39)) num bytes N n2 v4 (.slice (some ⟨n1, 0, none⟩) 0 N) := by
  subst h1; subst h2
  exact laid_last (OwnL.ext ho (Ext_alloc _ (Ext.refl _))) (rowN (Box.new _ _ _) hc (by simp only [maxLen]; omega) he.size) (fun b hb => row_ne (by have := (World.ownsRow.lt ho b hb).2; omega)) (Ext_alloc _ he) (by simp)
theorem laidC {W2 w4 : World} {num : Int} {bytes : List UInt8} {N n1 n2 : Nat} {v4 : Value} {CS : Array Value} (ho : OwnL vu8 5 W2 w4 v4 bytes) (he : Ext W2 w4) (hc : CS.size = N * 3) (hN : N ≤ 1048576) (h1 : w4.heap.size = n1) (h2 : n1 + 1 = n2) :
    LaidV W2 ((w4.alloc (.cells #[.int .i64 num, v4, .slice (some ⟨n2, 0, none⟩) 0 N] 39)).alloc (.cells CS 39)) num bytes N n1 v4 (.slice (some ⟨n2, 0, none⟩) 0 N) := by
  subst h1; subst h2
  exact ⟨(Box.new _ _ _).ext (Ext_alloc _ (Ext.refl _)), OwnL.ext ho (Ext_alloc _ (Ext_alloc _ (Ext.refl _))), rowN (boxAt0 (by simp)) hc (by simp only [maxLen]; omega) (by have := he.size; omega), OwnL.far ho (.inr (Nat.le_refl _)), row_ne (by omega), fun b hb => row_ne (by have := (World.ownsRow.lt ho b hb).2; omega), he.size, Ext_alloc _ (Ext_alloc _ he)⟩
theorem neq_row {v : Value} {n m N : Nat} (h : v.ownBlock ≠ some n) : ∀ b, v.ownBlock = some b → (Value.slice (some ⟨n, 0, none⟩) m N).ownBlock ≠ some b := by
  intro b hb hh
  have : some n = some b := hh
  rw [← this] at hb; exact h hb
def iCopyOk (v : DVal) : Prop := ∀ (Ab : Option Addr) (cb : Nat) (Ai : Option Addr) (ci : Nat) (w : World), RdV w v Ab cb Ai ci → szV v ≤ 1048576 →
  Calls Tryz.prog 52 #[vval v (.slice Ab v.bytes.length cb) (.slice Ai v.items.length ci)] w fun e w' => ∃ t, e = .returned (vval v t.vb t.vi) ∧ GotV w w' t v ∧ Ext w w'
theorem mk_val (N : Nat) (hN : N ≤ 1048576) : ∃ CS : Array Value, CS.size = N * 3 ∧ ∀ W : World, (Instr.makeSlice 37 (.int .i64 0) (.int .i64 (N : Int))).run Tryz.prog W = .ok (.slice (some ⟨W.heap.size, 0, none⟩) 0 N) (W.alloc (.cells CS 39)) := by
  obtain ⟨i0, hi0, hz0, hz1, hz2⟩ := info_parts E_val.hi
  refine ⟨madeCells (Value.agg #[.int .i64 0, .slice none 0 0, .slice none 0 0]).cells (N * 3), size_madeCells _ _, fun W => ?_⟩
  have hr := run_makeSlice (P := Tryz.prog) W 37 39 i0 _ E_val.ht hi0 hz0 .i64 .i64 0 (N : Int) (Int.le_refl _) (by omega) (by rw [hz1]; simp; omega) (by rw [hz2]; omega) (by omega)
  simp only [Int.toNat_zero, Int.toNat_natCast, hz1] at hr
  exact hr
set_option maxRecDepth 100000 in
set_option maxHeartbeats 8000000 in
theorem iCopy_of (v : DVal) (H : ∀ x ∈ v.items, iCopyOk x) : iCopyOk v := by
  intro Ab cb Ai ci w h hz
  obtain ⟨hb, hi⟩ := h
  have z1 : v.bytes.length ≤ 1048576 := by have := bytes_le v; omega
  have HZ : Hid (∀ x ∈ v.items, szV x ≤ 1048576) := fun x hx => by have := szV_item hx; omega
  have hn : v.items.length ≤ 1048576 := by have := items_le v; omega
  have HH := Lib.hid H
  have HDV : Hid (DVal.mk v.num v.bytes v.items = v) := v.eta
  unfold vval
  generalize v.num = num at *
  generalize v.bytes = bytes at *
  generalize v.items = items at *
  clear H
  obtain ⟨CS, hCS, HM⟩ := mk_val items.length hn
  have HCS := Lib.hid hCS; clear hCS
  have ea := Ext_alloc (.cells #[.int .i64 num, .slice Ab bytes.length cb, .slice Ai items.length ci] 39) (Ext.refl w)
  have B0 := fun w' (e : Ext (w.alloc (.cells #[.int .i64 num, .slice Ab bytes.length cb, .slice Ai items.length ci] 39)) w') => boxed e
  obtain ⟨W1, hW1⟩ : ∃ W1, W1 = w.alloc (.cells #[.int .i64 num, .slice Ab bytes.length cb, .slice Ai items.length ci] 39) := ⟨_, rfl⟩
  have HW1 := Lib.hid hW1
  have hs1 : W1.heap.size = w.heap.size + 1 := by rw [hW1]; simp
  rw [← hW1] at ea B0
  have ey := Ext_alloc (.cells #[.int .i64 0, .slice none 0 0, .slice none 0 0] 39) (Ext.refl W1)
  have BR := Box.new W1 #[.int .i64 0, .slice none 0 0, .slice none 0 0] 39
  rw [hs1] at BR
  obtain ⟨W2, hW2⟩ : ∃ W2, W2 = W1.alloc (.cells #[.int .i64 0, .slice none 0 0, .slice none 0 0] 39) := ⟨_, rfl⟩
  have HW2 := Lib.hid hW2
  have hs2 : W2.heap.size = w.heap.size + 2 := by rw [hW2]; simp; omega
  rw [← hW2] at ey BR
  clear hW1 hW2
  go_enter Tryz.func52, Tryz.ntmps52
  go_wp2_with fail
  rw [← HW1.out, ← HW2.out]
  have HD := Lib.hid hb; have HEY := Lib.hid ey
  have HB2 : Hid ((([] : List UInt8).length + bytes.length) * 1 ≤ 140737488355328) := by show _ ≤ _; simp; omega
  have HDL : Hid (bytes.length ≤ 140737488351232) := by show _ ≤ _; omega
  have SX : Hid (∀ w', Ext W1 w' → ((w'.cell? ⟨w.heap.size, 0, none⟩ = some (.int .i64 num) ∧ w'.cell? ⟨w.heap.size, 1, none⟩ = some (.slice Ab bytes.length cb) ∧ w'.cell? ⟨w.heap.size, 2, none⟩ = some (.slice Ai items.length ci)) ∧ Ext W1 w')) := fun w' e => ⟨⟨B0 w' e 0, B0 w' e 1, B0 w' e 2⟩, e⟩
  have HSX0 := Lib.hid B0
  have HBR := Lib.hid BR
  clear BR
  go_cut [3] (fun s3 wx => ∃ g A4 c4 A5, s3 = .pointer (some ⟨g, 0, none⟩) ∧ LaidV W2 wx num bytes items.length g (.slice A4 bytes.length c4) (.slice A5 0 items.length))
  case first =>
    go_region_held3 (fun w' => (w'.cell? ⟨w.heap.size, 0, none⟩ = some (.int .i64 num) ∧ w'.cell? ⟨w.heap.size, 1, none⟩ = some (.slice Ab bytes.length cb) ∧ w'.cell? ⟨w.heap.size, 2, none⟩ = some (.slice Ai items.length ci)) ∧ Ext W1 w') (exact SX.out _ (by repeat' (first | assumption | (with_reducible refine Ext_alloc _ ?_) | (with_reducible refine Ext_drew ?_) | (with_reducible refine Ext.setCell ?_ (by simp; try omega) _)))) (first
      | (refine step_appH rfl (.tmp 8) (.tmp 10) _ rfl E_u8 (by omega) W2 _ vu8 (fun _ => rfl) _ rfl _ _ _ rfl [] bytes (row0 (by first | (with_reducible exact Box.dr (boxAt0 (by (try simp only [World.size_alloc, size_drew']); omega))) | (with_reducible exact Box.dr (Box.al (boxAt0 (by (try simp only [World.size_alloc, size_drew']); omega)))) | (with_reducible exact Box.dr (Box.al (Box.al (boxAt0 (by (try simp only [World.size_alloc, size_drew']); omega)))))) (by omega)) (by repeat' (first | (with_reducible exact Ext.refl _) | (with_reducible refine Ext_drew ?_) | (with_reducible refine Ext_alloc _ ?_))) rfl (fun hp => src0 HD.out ((ea.trans ey).trans (by repeat' (first | (with_reducible exact Ext.refl _) | (with_reducible refine Ext_drew ?_) | (with_reducible refine Ext_alloc _ ?_)))) hp) HB2.out ?_; intro v4 w4 ho4 he4 hv4 hg4; rw [List.nil_append] at ho4; have e14 := ey.trans he4; obtain ⟨A4, c4, hvv, r4⟩ := OwnL.rd ho4 HDL.out; subst hvv; (first | (have hbz : Box w4 (w.heap.size + 2) #[.int .i64 0, .slice none 0 0, .slice none 0 0] 39 := Box.moved (by first | (with_reducible exact Box.dr (boxAt0 (by (try simp only [World.size_alloc, size_drew']); omega))) | (with_reducible exact Box.dr (Box.al (boxAt0 (by (try simp only [World.size_alloc, size_drew']); omega)))) | (with_reducible exact Box.dr (Box.al (Box.al (boxAt0 (by (try simp only [World.size_alloc, size_drew']); omega)))))) hg4 (fun hh => by injection hh with hh; (first | (simp at hh; done) | (simp at hh; omega))); have z0 : ∀ w', Ext w4 w' → w'.cell? ⟨w.heap.size + 2, 0, none⟩ = some (Value.int .i64 0) := (fun w' e => hbz.at 0 w' e); have z1 : ∀ w', Ext w4 w' → w'.cell? ⟨w.heap.size + 2, 1, none⟩ = some (Value.slice none 0 0) := (fun w' e => hbz.at 1 w' e); have z2 : ∀ w', Ext w4 w' → w'.cell? ⟨w.heap.size + 2, 2, none⟩ = some (Value.slice none 0 0) := (fun w' e => hbz.at 2 w' e); have y0 : ∀ w', Ext w4 w' → w'.frozen? ⟨w.heap.size + 2, 0, none⟩ = false := (fun w' e => hbz.frees 0 w' e); have y1 : ∀ w', Ext w4 w' → w'.frozen? ⟨w.heap.size + 2, 1, none⟩ = false := (fun w' e => hbz.frees 1 w' e); have y2 : ∀ w', Ext w4 w' → w'.frozen? ⟨w.heap.size + 2, 2, none⟩ = false := (fun w' e => hbz.frees 2 w' e); have hnb := own_nb' hv4 (b := w.heap.size + 2) (by omega) (by (try simp only [World.size_alloc, size_drew']); omega); have hgz : W2.heap.size ≤ w.heap.size + 2 := (by omega)) | (have hbz : Box w4 (w.heap.size + 2 + 1) #[.int .i64 0, .slice none 0 0, .slice none 0 0] 39 := Box.moved (by first | (with_reducible exact Box.dr (boxAt0 (by (try simp only [World.size_alloc, size_drew']); omega))) | (with_reducible exact Box.dr (Box.al (boxAt0 (by (try simp only [World.size_alloc, size_drew']); omega)))) | (with_reducible exact Box.dr (Box.al (Box.al (boxAt0 (by (try simp only [World.size_alloc, size_drew']); omega)))))) hg4 (fun hh => by injection hh with hh; (first | (simp at hh; done) | (simp at hh; omega))); have z0 : ∀ w', Ext w4 w' → w'.cell? ⟨w.heap.size + 2 + 1, 0, none⟩ = some (Value.int .i64 0) := (fun w' e => hbz.at 0 w' e); have z1 : ∀ w', Ext w4 w' → w'.cell? ⟨w.heap.size + 2 + 1, 1, none⟩ = some (Value.slice none 0 0) := (fun w' e => hbz.at 1 w' e); have z2 : ∀ w', Ext w4 w' → w'.cell? ⟨w.heap.size + 2 + 1, 2, none⟩ = some (Value.slice none 0 0) := (fun w' e => hbz.at 2 w' e); have y0 : ∀ w', Ext w4 w' → w'.frozen? ⟨w.heap.size + 2 + 1, 0, none⟩ = false := (fun w' e => hbz.frees 0 w' e); have y1 : ∀ w', Ext w4 w' → w'.frozen? ⟨w.heap.size + 2 + 1, 1, none⟩ = false := (fun w' e => hbz.frees 1 w' e); have y2 : ∀ w', Ext w4 w' → w'.frozen? ⟨w.heap.size + 2 + 1, 2, none⟩ = false := (fun w' e => hbz.frees 2 w' e); have hnb := own_nb' hv4 (b := w.heap.size + 2 + 1) (by omega) (by (try simp only [World.size_alloc, size_drew']); omega); have hgz : W2.heap.size ≤ w.heap.size + 2 + 1 := (by omega)) | (have hbz : Box w4 (w.heap.size + 2 + 1 + 1) #[.int .i64 0, .slice none 0 0, .slice none 0 0] 39 := Box.moved (by first | (with_reducible exact Box.dr (boxAt0 (by (try simp only [World.size_alloc, size_drew']); omega))) | (with_reducible exact Box.dr (Box.al (boxAt0 (by (try simp only [World.size_alloc, size_drew']); omega)))) | (with_reducible exact Box.dr (Box.al (Box.al (boxAt0 (by (try simp only [World.size_alloc, size_drew']); omega)))))) hg4 (fun hh => by injection hh with hh; (first | (simp at hh; done) | (simp at hh; omega))); have z0 : ∀ w', Ext w4 w' → w'.cell? ⟨w.heap.size + 2 + 1 + 1, 0, none⟩ = some (Value.int .i64 0) := (fun w' e => hbz.at 0 w' e); have z1 : ∀ w', Ext w4 w' → w'.cell? ⟨w.heap.size + 2 + 1 + 1, 1, none⟩ = some (Value.slice none 0 0) := (fun w' e => hbz.at 1 w' e); have z2 : ∀ w', Ext w4 w' → w'.cell? ⟨w.heap.size + 2 + 1 + 1, 2, none⟩ = some (Value.slice none 0 0) := (fun w' e => hbz.at 2 w' e); have y0 : ∀ w', Ext w4 w' → w'.frozen? ⟨w.heap.size + 2 + 1 + 1, 0, none⟩ = false := (fun w' e => hbz.frees 0 w' e); have y1 : ∀ w', Ext w4 w' → w'.frozen? ⟨w.heap.size + 2 + 1 + 1, 1, none⟩ = false := (fun w' e => hbz.frees 1 w' e); have y2 : ∀ w', Ext w4 w' → w'.frozen? ⟨w.heap.size + 2 + 1 + 1, 2, none⟩ = false := (fun w' e => hbz.frees 2 w' e); have hnb := own_nb' hv4 (b := w.heap.size + 2 + 1 + 1) (by omega) (by (try simp only [World.size_alloc, size_drew']); omega); have hgz : W2.heap.size ≤ w.heap.size + 2 + 1 + 1 := (by omega)) | skip); (first | (have hMr : Own 39 3 W2 w4 (.slice (some ⟨w.heap.size + 2, 0, none⟩) 0 items.length) 0 [] := rowN (Box.moved (by first | (with_reducible exact Box.dr (boxAt0 (by (try simp only [World.size_alloc, size_drew']); omega))) | (with_reducible exact Box.dr (Box.al (boxAt0 (by (try simp only [World.size_alloc, size_drew']); omega)))) | (with_reducible exact Box.dr (Box.al (Box.al (boxAt0 (by (try simp only [World.size_alloc, size_drew']); omega)))))) hg4 (fun hh => by injection hh with hh; (first | (simp at hh; done) | (simp at hh; omega)))) HCS.out (by simp only [maxLen]; omega) (by omega); have hnm := own_nb' hv4 (b := w.heap.size + 2) (by omega) (by (try simp only [World.size_alloc, size_drew']); omega)) | (have hMr : Own 39 3 W2 w4 (.slice (some ⟨w.heap.size + 2 + 1, 0, none⟩) 0 items.length) 0 [] := rowN (Box.moved (by first | (with_reducible exact Box.dr (boxAt0 (by (try simp only [World.size_alloc, size_drew']); omega))) | (with_reducible exact Box.dr (Box.al (boxAt0 (by (try simp only [World.size_alloc, size_drew']); omega)))) | (with_reducible exact Box.dr (Box.al (Box.al (boxAt0 (by (try simp only [World.size_alloc, size_drew']); omega)))))) hg4 (fun hh => by injection hh with hh; (first | (simp at hh; done) | (simp at hh; omega)))) HCS.out (by simp only [maxLen]; omega) (by omega); have hnm := own_nb' hv4 (b := w.heap.size + 2 + 1) (by omega) (by (try simp only [World.size_alloc, size_drew']); omega)) | (have hMr : Own 39 3 W2 w4 (.slice (some ⟨w.heap.size + 2 + 1 + 1, 0, none⟩) 0 items.length) 0 [] := rowN (Box.moved (by first | (with_reducible exact Box.dr (boxAt0 (by (try simp only [World.size_alloc, size_drew']); omega))) | (with_reducible exact Box.dr (Box.al (boxAt0 (by (try simp only [World.size_alloc, size_drew']); omega)))) | (with_reducible exact Box.dr (Box.al (Box.al (boxAt0 (by (try simp only [World.size_alloc, size_drew']); omega)))))) hg4 (fun hh => by injection hh with hh; (first | (simp at hh; done) | (simp at hh; omega)))) HCS.out (by simp only [maxLen]; omega) (by omega); have hnm := own_nb' hv4 (b := w.heap.size + 2 + 1 + 1) (by omega) (by (try simp only [World.size_alloc, size_drew']); omega)) | skip)))
    all_goals
      go_wp2_with fail
      go_meet
      first
        | (with_reducible exact ⟨_, A4, c4, _, rfl, laidB ho4 he4 HCS.out hn rfl rfl⟩)
        | (with_reducible exact ⟨_, A4, c4, _, rfl, laidC ho4 he4 HCS.out hn rfl rfl⟩)
        | (with_reducible exact ⟨_, A4, c4, _, rfl, laid_last ho4 hMr (neq_row hnm) he4 rfl⟩)
        | (with_reducible exact ⟨_, A4, c4, _, rfl, laidF hbz ho4 hnb hgz he4 HCS.out hn rfl⟩)
        | (with_reducible exact ⟨_, A4, c4, _, rfl, laid_set hbz ho4 hMr hnb (row_ne (by omega)) (neq_row hnm) hgz he4⟩)
  case rest =>
    obtain ⟨g, A4, c4, A5, rfl, hb4, ho4, hM4, hne4, hnm4, hnn4, hg4, he4⟩ := hcut
    clear SX HB2 HD hb HDL B0 HM HCS
    have OD0 : Hid (OwnTs W2 wc (.slice A5 0 items.length) []) := ⟨hM4, fun p hp => by simp at hp, Far.one _⟩
    have NF0 : Hid (∀ u ∈ (Value.slice A5 0 items.length) :: ([] : List VT).flatMap VT.vals, u.ownBlock ≠ some g ∧ ∀ b, (Value.slice A4 bytes.length c4).ownBlock = some b → u.ownBlock ≠ some b) := by
      intro u hu
      simp only [List.flatMap_nil, List.mem_cons, List.not_mem_nil, or_false] at hu
      subst hu
      exact ⟨hnm4, hnn4⟩
    have HB4 := Lib.hid hb4; have HO4 := Lib.hid ho4; have HNE := Lib.hid hne4
    have hgc := hb4.lt
    have hgw : w.heap.size + 2 ≤ g := by omega
    have HBL : Hid (∀ b, (Value.slice A4 bytes.length c4).ownBlock = some b → w.heap.size + 2 ≤ b ∧ b < wc.heap.size) := fun b hb => by have := World.ownsRow.lt ho4 b hb; omega
    have hs2' := Lib.hid hs2
    have cB := fun w' (e : Ext W2 w') => HSX0.out w' (HEY.out.trans e) 2
    simp only [List.getElem?_toArray, List.getElem?_cons_zero, List.getElem?_cons_succ] at cB
    clear hb4 ho4 hne4 hnm4 hnn4 hM4 hg4 HW1 HW2 hs2
    go_wp2
    go_loopw [20] (fun ix wr => ∃ (k : Nat) (ps : List VT) (v : Value), k ≤ items.length ∧ ix = .int .i64 k ∧ ps.length ≤ k ∧ k ≤ ps.length ∧ Hid (valsOf ps = items.take k) ∧ Hid (OwnTs W2 wr v ps) ∧ Hid (Box wr g #[.int .i64 num, .slice A4 bytes.length c4, v] 39) ∧ Hid (OwnL vu8 5 W2 wr (.slice A4 bytes.length c4) bytes) ∧ Hid (∀ u ∈ v :: ps.flatMap VT.vals, u.ownBlock ≠ some g ∧ ∀ b, (Value.slice A4 bytes.length c4).ownBlock = some b → u.ownBlock ≠ some b) ∧ Ext W2 wr ∧ wc.heap.size ≤ wr.heap.size) (fun ix _ => items.length - (intOf ix).toNat)
    case atStart => exact ⟨0, [], _, by omega, rfl, by simp, by simp, by simp [Hid, valsOf], OD0, HB4, HO4, NF0, he4, Nat.le_refl _⟩
    case round =>
      clear OD0 HB4 HO4 NF0 he4
      obtain ⟨k, ps, v, hk, rfl, hl1, hl2, hps, hod, hbo, hby, hnf, he, hsz⟩ := hrel
      have e1 := HEY.out.trans he
      by_cases hlt : k < items.length
      · obtain ⟨b, off, A1, c1, D1, d1, hA, hb, hs, hr⟩ := hi.at k hlt
        subst hA
        have hzk := HZ.out _ (List.getElem_mem hlt)
        have HT : Hid (items.take (k+1) = items.take k ++ [items[k]]) := List.take_succ_eq_append_getElem hlt
        have Hk := HH.out _ (List.getElem_mem hlt)
        generalize items[k] = r at *
        have C := Lib.hid (fun w h => Hk A1 c1 D1 d1 w h hzk)
        have ew := ea.trans e1
        obtain ⟨k0, k1, k2⟩ := hr
        replace k0 := fun w' (e : Ext wr w') => k0 w' (ew.trans e)
        replace k1 := fun w' (e : Ext wr w') => k1 w' (ew.trans e)
        replace k2 := fun w' (e : Ext wr w') => k2 w' (ew.trans e)
        unfold vval at C
        have xr := Ext_alloc (.cells #[.int .i64 r.num, .slice A1 r.bytes.length c1, .slice D1 r.items.length d1] 39) (Ext.refl wr)
        have xd := Ext_drew xr
        have hbx := Lib.hid ((Box.new wr #[.int .i64 r.num, .slice A1 r.bytes.length c1, .slice D1 r.items.length d1] 39).ext (Ext_drew (Ext.refl (wr.alloc (.cells #[.int .i64 r.num, .slice A1 r.bytes.length c1, .slice D1 r.items.length d1] 39)))))
        have cx := hbx.out.cell
        have cv : _ = some v := (hbo.out.ext xd).cell 2
        have HS := Lib.hid (hs.ext (ew.trans xd)); have hzk := Lib.hid hzk
        have hbod := Lib.hid (hbo.out.ext xd)
        have hodd := Lib.hid (hod.out.ext xd)
        have hszd : Hid (W2.heap.size ≤ (wr.alloc (.cells #[.int .i64 r.num, .slice A1 r.bytes.length c1, .slice D1 r.items.length d1] 39)).drew.heap.size) := by have := he.size; show _ ≤ _; rw [size_drew', World.size_alloc]; omega
        have hszc : Hid (wc.heap.size ≤ (wr.alloc (.cells #[.int .i64 r.num, .slice A1 r.bytes.length c1, .slice D1 r.items.length d1] 39)).drew.heap.size) := by show _ ≤ _; rw [size_drew', World.size_alloc]; omega
        have b1 : (0 : Int) ≤ (k : Int) := by omega
        have b2 : (k : Int) < (items.length : Int) := by omega
        clear hs Hk hi ew e1 cB
        go_wp2_with fail
        go_region_law (first
          | (go_simp; go_at_call 52; refine (C.out _ HS.out).mono ?_; rintro _ w2 ⟨t, rfl, hgt, he2⟩; have hgt := Lib.hid hgt; have hbo3 := Lib.hid ((hbod.out.ext he2).ext (Ext_alloc (.cells #[.int .i64 r.num, t.vb, t.vi] 39) (Ext.refl w2))); have c2' : _ = some v := (hbod.out.ext he2).cell 2; have c3 : _ = some v := hbo3.out.cell 2; have hsz2 : Hid (W2.heap.size ≤ (w2.alloc (.cells #[.int .i64 r.num, t.vb, t.vi] 39)).heap.size) := (by have h1 := he2.size; have h2 := hszd.out; show _ ≤ _; rw [World.size_alloc]; omega); have hone : Hid (∀ u ∈ [Value.int .i64 r.num, t.vb, t.vi], u.oneCell' = true) := (by have := hgt.out.own.one; unfold VT.cells at this; rw [hgt.out.num] at this; exact this); have hNv : Hid (v.ownBlock ≠ some g) := (hnf.out v (List.mem_cons_self ..)).1)
          | (refine step_app8 rfl (.tmp 25) (.tmp 28) _ rfl E_val W2 (w2.alloc (.cells #[.int .i64 r.num, t.vb, t.vi] 39)) v ps.length (ps.flatMap VT.cells) rfl (Own.ext (Own.ext hodd.out.row he2) (Ext_alloc _ (Ext.refl _))) hsz2.out ⟨w2.heap.size, 0, none⟩ 1 1 [.int .i64 r.num, t.vb, t.vi] rfl rfl (fun j u hu => (World.cell?_alloc_at' w2 [.int .i64 r.num, t.vb, t.vi] 39 j).trans hu) hone.out (by simp [maxLen]; omega) (by omega) ?_; intro v4 w4 ho4 hg4 hv4; have hbo4 := Lib.hid (Box.moved (hbo3.out) hg4 hNv.out); have c4' := hbo4.out.cell 2; have f4 := hbo4.out.free 2; have HO4 : Hid (OwnTs W2 w4 v4 (ps ++ [t])) := OwnTs.snoc hodd.out he2 hgt.out.own hgt.out.far hszd.out (by unfold VT.cells at ho4 ⊢; rw [hgt.out.num]; exact ho4) hg4 hv4; have HG4 := Lib.hid hg4; have HV4 := Lib.hid hv4; clear ho4 hg4 hv4; obtain ⟨A6, q6, hA6⟩ := HO4.out.shape; replace hA6 : v4 = .slice A6 (ps.length + 1) q6 := (by rw [hA6, List.length_append]; rfl); subst hA6))
        all_goals
          have x3 := Ext_alloc (.cells #[.int .i64 r.num, t.vb, t.vi] 39) (Ext.refl w2)
          have bV : ∀ b, v.ownBlock = some b → W2.heap.size ≤ b := fun b hb => (hod.out.block v (List.mem_cons_self ..) b hb).1
          have hs2'' := hs2'.out
          have e4 := (((he.trans xd).trans he2).trans x3).grown HG4.out (fun b hb => by have := bV b hb; omega)
          have O5 : Hid (Box (w4.setCell ⟨g, 2, none⟩ (.slice A6 (ps.length + 1) q6)) g #[.int .i64 num, .slice A4 bytes.length c4, .slice A6 (ps.length + 1) q6] 39) := hbo4.out.set 2 (.slice A6 (ps.length + 1) q6)
          have NF5 : Hid (∀ u ∈ (Value.slice A6 (ps.length + 1) q6) :: (ps ++ [t]).flatMap VT.vals, u.ownBlock ≠ some g ∧ ∀ b, (Value.slice A4 bytes.length c4).ownBlock = some b → u.ownBlock ≠ some b) := by
            have hx2 := he2.size
            rw [size_drew', World.size_alloc] at hx2
            have hgl := hbo.out.lt
            intro u hu
            rcases List.mem_cons.1 hu with rfl | hu
            · rcases HV4.out with h4 | h4
              · rw [h4]; exact hnf.out v (List.mem_cons_self ..)
              · rw [h4, World.size_alloc]
                exact ⟨fun hh => by injection hh with hh; omega, fun b hb hh => by have := (HBL.out b hb).2; injection hh with hh; omega⟩
            · rw [List.flatMap_append] at hu
              rcases List.mem_append.1 hu with hu | hu
              · exact hnf.out u (List.mem_cons_of_mem _ hu)
              · rw [List.flatMap_cons, List.flatMap_nil, List.append_nil] at hu
                have h4 := fun b hb => (hgt.out.own.block u hu b hb).1
                exact ⟨fun hh => by have := h4 _ hh; rw [size_drew', World.size_alloc] at this; omega, fun b hb hh => by have := h4 _ hh; have := (HBL.out b hb).2; rw [size_drew', World.size_alloc] at *; omega⟩
          have D5 : Hid (OwnTs W2 (w4.setCell ⟨g, 2, none⟩ (.slice A6 (ps.length + 1) q6)) (.slice A6 (ps.length + 1) q6) (ps ++ [t])) := HO4.out.keep (grown_set w4 ⟨g, 2, none⟩ _) (fun u hu b hb hh => by injection hh with hh; simp at hh; subst hh; exact (NF5.out u hu).1 hb)
          have Y5 : Hid (OwnL vu8 5 W2 (w4.setCell ⟨g, 2, none⟩ (.slice A6 (ps.length + 1) q6)) (.slice A4 bytes.length c4) bytes) := (((hby.out.ext (xd.trans he2)).ext x3).keep HG4.out (fun b hb hh => (hnf.out v (List.mem_cons_self ..)).2 b hb hh)).keep (grown_set w4 ⟨g, 2, none⟩ _) (fun b hb hh => by injection hh with hh; simp at hh; subst hh; exact HNE.out hb)
          have E5 : Hid (Ext W2 (w4.setCell ⟨g, 2, none⟩ (.slice A6 (ps.length + 1) q6))) := e4.setCell (p := ⟨g, 2, none⟩) (by show W2.heap.size ≤ g; omega) _
          have S5 : Hid (wc.heap.size ≤ (w4.setCell ⟨g, 2, none⟩ (.slice A6 (ps.length + 1) q6)).heap.size) := by
            have h1 := HG4.out.size; have h2 := he2.size; have h3 := hszc.out
            rw [World.size_alloc] at h1
            show _ ≤ _; simp only [World.size_setCell]; omega
          have N5 : Hid (valsOf (ps ++ [t]) = items.take (k + 1)) := by show _ = _; rw [valsOf_append, hps.out, HT.out, valsOf, valsOf, hgt.out.val]
          clear x3 bV e4 hs2''
          go_wp2
          go_roundw
          case rel => exact ⟨k + 1, ps ++ [t], _, by omega, by go_num, by simp; omega, by simp; omega, N5, D5, O5, Y5, NF5, E5.out, S5.out⟩
          case measure => simp [intOf]; omega
      · obtain rfl : k = items.length := by omega
        obtain ⟨A6, c6, hA6⟩ := hod.out.shape
        have hpl : ps.length = items.length := by omega
        rw [hpl] at hA6
        subst hA6
        have HN : Hid (valsOf ps = items) := by show _ = _; rw [hps.out, List.take_length]
        have p2 := hbo.out.cell; have r2 := (HBR.out.ext he).cell; have t2 := (HBR.out.ext he).free
        have hs2'' := hs2'.out
        have G := grown_put3 wr (w.heap.size + 1) 0 (.mk num bytes (.slice A4 bytes.length c4) ps (.slice A6 items.length c6))
        have E5 : Hid (Ext w (put3 wr (w.heap.size + 1) 0 (.mk num bytes (.slice A4 bytes.length c4) ps (.slice A6 items.length c6)))) := (ea.trans e1).grown G (fun b hb => by injection hb with hb; omega)
        have O5 : Hid (OwnT w (put3 wr (w.heap.size + 1) 0 (.mk num bytes (.slice A4 bytes.length c4) ps (.slice A6 items.length c6))) (.mk num bytes (.slice A4 bytes.length c4) ps (.slice A6 items.length c6))) := by
          have o2 := (hod.out.keep G (fun u hu b hb he => by have := hod.out.block u hu b hb; injection he with he; omega)).down (w0 := w) (by omega)
          exact .mk ((OwnL.keep hby.out G (fun b hb he => by have := HBL.out b hb; injection he with he; omega)).down (by omega)) o2.row o2.each
        have F5 : Hid (Far (VT.vals (.mk num bytes (.slice A4 bytes.length c4) ps (.slice A6 items.length c6)))) := by
          rw [VT.vals_eq]
          refine Far.cons hod.out.far ?_
          intro u hu b h1 h2
          exact (hnf.out u hu).2 b h1 h2
        clear G hps hod hbo hby hi hs2'' hnf cB
        go_wp2
        exact bodyPost_ret (v := .agg #[.int .i64 num, .slice A4 bytes.length c4, .slice A6 items.length c6]) (by simp [results, Tryz.results52, go_sem, p2, r2, t2]) rfl ⟨.mk num bytes (.slice A4 bytes.length c4) ps (.slice A6 items.length c6), rfl, ⟨by rw [VT.val, HN.out]; exact HDV.out, O5.out, F5.out⟩, E5.out⟩
theorem iCopy_all : ∀ v, iCopyOk v := fun v => DVal.ind iCopy_of v
end Go.Proofs.YtjckcbfpejcpcaaGreatDoor

/- Valid descriptions, as plain functions of the rules. -/
namespace Go.Proofs.YtjckcbfpejcpcaaGreatDoor

/-- f holds at every number below n -/
def allN (n : Nat) (f : Nat → Bool) : Bool := (List.range n).all f
theorem allN_no {n k : Nat} {f : Nat → Bool} (hk : k < n) (h : f k = false) : allN n f = false := by
  unfold allN
  rw [Bool.eq_false_iff]
  intro hall
  have := List.all_eq_true.1 hall k (by simpa using hk)
  rw [h] at this; cases this
theorem allN_yes {n : Nat} {f : Nat → Bool} (h : ∀ j, j < n → f j = true) : allN n f = true := List.all_eq_true.2 fun j hj => h j (by simpa using hj)
theorem upTo {k : Nat} {f : Nat → Bool} (h : ∀ j, j < k → f j = true) (hk : f k = true) : ∀ j, j < k + 1 → f j = true := by
  intro j hj
  rcases (by omega : j < k ∨ j = k) with hj | rfl
  · exact h j hj
  · exact hk
/-- is the text among the first k of the list -/
def hasNm (l : List ByteArray) (s : ByteArray) : Bool := l.any fun x => x.toList == s.toList
theorem hasNm_at {l : List ByteArray} {s : ByteArray} {k : Nat} (hk : k < l.length) (h : (l[k].toList == s.toList) = true) : hasNm l s = true := List.any_eq_true.2 ⟨l[k], List.getElem_mem hk, h⟩
theorem hasNm_none {l : List ByteArray} {s : ByteArray} (h : ∀ k (hk : k < l.length), (l[k].toList == s.toList) = false) : hasNm l s = false := by
  unfold hasNm
  rw [List.any_eq_false]
  intro x hx
  obtain ⟨k, hk, rfl⟩ := List.getElem_of_mem hx
  rw [h k hk]; simp
/-- the greatest number of an integer rule, else -1 -/
def limR (r : DRule) : Int := if r.kind = 1 ∧ 1 ≤ r.size ∧ r.size ≤ 4 then 256 ^ r.size.toNat - 1 else -1
def limD (ds : List DRule) (i : Int) : Int := if 0 ≤ i then (match ds[i.toNat]? with | some r => limR r | none => -1) else -1
theorem limR_cases (r : DRule) : limR r = -1 ∨ limR r = 255 ∨ limR r = 65535 ∨ limR r = 16777215 ∨ limR r = 4294967295 := by
  unfold limR
  split
  · rename_i h
    rcases (by omega : r.size = 1 ∨ r.size = 2 ∨ r.size = 3 ∨ r.size = 4) with e | e | e | e <;> rw [e] <;> simp
  · exact .inl rfl
theorem limD_cases (ds : List DRule) (i : Int) : limD ds i = -1 ∨ limD ds i = 255 ∨ limD ds i = 65535 ∨ limD ds i = 16777215 ∨ limD ds i = 4294967295 := by
  unfold limD
  split
  · split
    · exact limR_cases _
    · exact .inl rfl
  · exact .inl rfl
/-- the fields that a rule may have -/
def plainB (r : DRule) (size bytes names tags : Bool) (kids : Int) : Bool :=
  (size || r.size == 0) && (bytes || r.bytes.length == 0) && (names || r.names.length == 0) && (tags || r.tags.length == 0) && (decide (kids < 0) || decide ((r.kids.length : Int) = kids))
def between (n lo hi : Int) : Bool := decide (lo ≤ n) && decide (n ≤ hi)
def nameOk (l : List ByteArray) (i : Nat) : Bool := match l[i]? with | some s => isName s && !hasNm (l.take i) s | none => true
def seqOk (r : DRule) : Bool := plainB r false false true false (-1) && r.kids.length == r.names.length && between r.kids.length 1 8 && allN r.names.length (nameOk r.names)
def tagOk (lim : Int) (l : List Int) (i : Nat) : Bool := match l[i]? with | some t => between t 0 lim && (i == 0 || decide (l.getD (i - 1) 0 < t)) | none => true
def choOk (ds : List DRule) (r : DRule) : Bool := plainB r false false false true (r.tags.length + 1) && between r.tags.length 1 8 && allN r.tags.length (tagOk (limD ds (r.kids.getD 0 0)) r.tags)
def kindOk (ds : List DRule) (r : DRule) : Bool :=
  if r.kind = 1 then plainB r true false false false 0 && between r.size 1 4 && (!r.little || decide (1 < r.size))
  else if r.kind = 2 then plainB r false true false false 0 && between r.bytes.length 1 16
  else if r.kind = 3 then plainB r true false false false 0 && between r.size 1 64
  else if r.kind = 4 then plainB r false false false false 1 && decide (0 < limD ds (r.kids.getD 0 0))
  else if r.kind = 5 then plainB r false false false false 2 && decide (0 < limD ds (r.kids.getD 0 0))
  else if r.kind = 6 then seqOk r
  else if r.kind = 7 then choOk ds r
  else if r.kind = 8 then plainB r false false false false 1
  else if r.kind = 9 then plainB r false false false false 1
  else if r.kind = 10 then plainB r false true false false 0 && r.bytes.length == 1 && !(r.bytes.getD 0 0 == 92)
  else false
def freshNm (ds : List DRule) (r : DRule) (j : Nat) : Bool := match ds[j]? with | some q => !(q.nm.toList == r.nm.toList) | none => true
def kidOk (l : List Int) (i : Nat) (j : Nat) : Bool := match l[j]? with | some k => between k 0 ((i : Int) - 1) | none => true
/-- rule number i is valid -/
def ruleOk (ds : List DRule) (i : Nat) : Bool := match ds[i]? with
  | some r => isName r.nm && (!r.little || r.kind == 1) && allN i (freshNm ds r) && allN r.kids.length (kidOk r.kids i) && kindOk ds r
  | none => false
def ruleOkI (ds : List DRule) (i : Int) : Bool := decide (0 ≤ i) && ruleOk ds i.toNat
def descOk (ds : List DRule) : Bool := between ds.length 1 24 && allN ds.length (ruleOk ds)
def regOk (gs : List (List DRule)) : Bool := decide (gs.length ≤ 8) && allN gs.length (fun i => match gs[i]? with | some d => descOk d | none => true)
end Go.Proofs.YtjckcbfpejcpcaaGreatDoor

/- Which rules can have an entry, as plain functions. -/
namespace Go.Proofs.YtjckcbfpejcpcaaGreatDoor

/-- the kids that count: without the first one at kinds 4, 5 and 7 -/
def kidsOf (r : DRule) : List Int := if r.kind = 4 ∨ r.kind = 5 ∨ r.kind = 7 then r.kids.drop 1 else r.kids
def setAll (c : List Bool) (l : List Int) : List Bool := l.foldl (fun c k => c.set k.toNat true) c
/-- rule number i hands on that it can have an entry -/
def possAt (ds : List DRule) (c : List Bool) (i : Nat) : List Bool := if c.getD i false then setAll c (kidsOf (ds.getD i ⟨⟨#[]⟩, 0, 0, false, [], [], [], []⟩)) else c
/-- from rule number i - 1 down -/
def possFrom (ds : List DRule) : Nat → List Bool → List Bool
  | 0, c => c
  | i + 1, c => possFrom ds i (possAt ds c i)
def possible (ds : List DRule) : List Bool := possFrom ds ds.length ((List.replicate ds.length false).set (ds.length - 1) true)
theorem setAll_len (c : List Bool) (l : List Int) : (setAll c l).length = c.length := by
  unfold setAll
  induction l generalizing c with
  | nil => rfl
  | cons a t ih => rw [List.foldl_cons, ih]; simp
theorem setAll_append (c : List Bool) (a b : List Int) : setAll c (a ++ b) = setAll (setAll c a) b := by unfold setAll; rw [List.foldl_append]
theorem possAt_len (ds : List DRule) (c : List Bool) (i : Nat) : (possAt ds c i).length = c.length := by
  unfold possAt; split
  · exact setAll_len _ _
  · rfl
theorem possFrom_len (ds : List DRule) (i : Nat) (c : List Bool) : (possFrom ds i c).length = c.length := by
  induction i generalizing c with
  | zero => rfl
  | succ i ih => rw [possFrom, ih, possAt_len]
theorem possible_len (ds : List DRule) : (possible ds).length = ds.length := by unfold possible; rw [possFrom_len]; simp
/-- a padding behind the list does not matter, while the kids lie within -/
theorem set_pad (c p : List Bool) (k : Nat) (h : k < c.length) : (c ++ p).set k true = c.set k true ++ p := by rw [List.set_append_left _ _ h]
theorem setAll_pad (c p : List Bool) (l : List Int) (h : ∀ k ∈ l, 0 ≤ k ∧ k < c.length) : setAll (c ++ p) l = setAll c l ++ p := by
  unfold setAll
  induction l generalizing c with
  | nil => rfl
  | cons a t ih =>
    have ha := h a (by simp)
    rw [List.foldl_cons, List.foldl_cons, set_pad c p _ (by omega)]
    exact ih _ (fun k hk => by have := h k (by simp [hk]); simpa using this)
/-- the rules that can have an entry -/
def entries (ds : List DRule) : List Nat := (List.range ds.length).filter fun i => (possible ds).getD i false
def entriesUpTo (c : List Bool) (n : Nat) : List Nat := (List.range n).filter fun i => c.getD i false
theorem entries_eq (ds : List DRule) : entries ds = entriesUpTo (possible ds) ds.length := rfl
theorem entriesUpTo_succ (c : List Bool) (n : Nat) : entriesUpTo c (n + 1) = if c.getD n false then entriesUpTo c n ++ [n] else entriesUpTo c n := by
  unfold entriesUpTo
  rw [List.range_succ, List.filter_append]
  by_cases h : c.getD n false
  · rw [if_pos h]; simp only [List.filter_cons, h, if_true, List.filter_nil]
  · rw [if_neg h]; simp only [List.filter_cons, h, List.filter_nil]; simp
/-- what a coverage says of an index -/
def covered (ds : List DRule) (cov : List Int) : Nat := ((entries ds).filter fun i => decide (0 < at0 cov i)).length
def percent (ds : List DRule) (cov : List Int) : Int := if descOk ds then (100 * covered ds cov : Nat) / (entries ds).length else 0
def uncovered (ds : List DRule) (cov : List Int) : List ByteArray := if descOk ds then ((entries ds).filter fun i => at0 cov i == 0).map (fun i => (ds.getD i ⟨⟨#[]⟩, 0, 0, false, [], [], [], []⟩).nm) else []
end Go.Proofs.YtjckcbfpejcpcaaGreatDoor

/- Parts of the test of a description: names in lists, limits, fields. -/
namespace Go.Proofs.YtjckcbfpejcpcaaGreatDoor
open Go.RowKit Go.Sort

set_option maxHeartbeats 400000 in
theorem sContains_c (A : Option Addr) (l : List ByteArray) (c : Nat) (s : ByteArray) (w : World) (h : Rd0 vstr w A l c) :
    Gives Tryz.prog 154 #[.slice A l.length c, .string s] w (.bool (hasNm l s)) := by
  have hl := h.len
  go_enter Tryz.func154, Tryz.ntmps154
  go_wp2
  go_loopw [5] (fun i wr => ∃ k : Nat, k ≤ l.length ∧ i = .int .i64 k ∧ Hid (∀ j (hj : j < l.length), j < k → (l[j].toList == s.toList) = false) ∧ Ext w wr) (fun i _ => l.length - (intOf i).toNat)
  case atStart => exact ⟨0, by omega, rfl, (fun j _ hj => by omega), Ext.refl _⟩
  case round =>
    obtain ⟨k, hk, rfl, ht, he⟩ := hrel
    by_cases hlt : k < l.length
    · obtain ⟨b, off, rfl, hb, hc⟩ := h.at k hlt
      have YES : Hid ((l[k].toList == s.toList) = true → hasNm l s = true) := hasNm_at hlt
      have NO : Hid ((l[k].toList == s.toList) = false → ∀ j (hj : j < l.length), j < k + 1 → (l[j].toList == s.toList) = false) := by
        intro hy j hj hjk
        rcases (by omega : j < k ∨ j = k) with hjk | rfl
        · exact ht.out j hj hjk
        · exact hy
      clear h
      generalize l[k] = x at *
      cases hq : (x.toList == s.toList)
      · have NO' := Lib.hid (NO.out hq)
        go_wp2
        go_roundw
        case rel => exact ⟨k+1, by omega, by go_num, NO'.out, he⟩
        case measure => simp [intOf]; omega
      · have YES' := Lib.hid (YES.out hq)
        go_wp2
        go_ret
        exact ⟨ret_bool YES'.out.symm, he⟩
    · have HE : Hid (hasNm l s = false) := hasNm_none (fun j hj => ht.out j hj (by omega))
      go_wp2
      go_ret
      exact ⟨ret_bool HE.out.symm, he⟩
set_option maxHeartbeats 400000 in
theorem iContains_c (A : Option Addr) (l : List ByteArray) (c : Nat) (s : ByteArray) (w : World) (h : Rd0 vstr w A l c) :
    Gives Tryz.prog 157 #[.slice A l.length c, .string s] w (.bool (hasNm l s)) := by
  have hl := h.len
  go_enter Tryz.func157, Tryz.ntmps157
  go_wp2
  go_loopw [9] (fun i wr => ∃ k : Nat, k ≤ l.length ∧ i = .int .i64 k ∧ Hid (∀ j (hj : j < l.length), j < k → (l[j].toList == s.toList) = false) ∧ Ext w wr) (fun i _ => l.length - (intOf i).toNat)
  case atStart => exact ⟨0, by omega, rfl, (fun j _ hj => by omega), Ext.refl _⟩
  case round =>
    obtain ⟨k, hk, rfl, ht, he⟩ := hrel
    by_cases hlt : k < l.length
    · obtain ⟨b, off, rfl, hb, hc⟩ := h.at k hlt
      have YES : Hid ((l[k].toList == s.toList) = true → hasNm l s = true) := hasNm_at hlt
      have NO : Hid ((l[k].toList == s.toList) = false → ∀ j (hj : j < l.length), j < k + 1 → (l[j].toList == s.toList) = false) := by
        intro hy j hj hjk
        rcases (by omega : j < k ∨ j = k) with hjk | rfl
        · exact ht.out j hj hjk
        · exact hy
      clear h
      generalize l[k] = x at *
      cases hq : (x.toList == s.toList)
      · have NO' := Lib.hid (NO.out hq)
        go_wp2
        go_roundw
        case rel => exact ⟨k+1, by omega, by go_num, NO'.out, he⟩
        case measure => simp [intOf]; omega
      · have YES' := Lib.hid (YES.out hq)
        go_wp2
        go_ret
        exact ⟨ret_bool YES'.out.symm, he⟩
    · have HE : Hid (hasNm l s = false) := hasNm_none (fun j hj => ht.out j hj (by omega))
      go_wp2
      go_ret
      exact ⟨ret_bool HE.out.symm, he⟩
set_option maxHeartbeats 400000 in
theorem hasRule_c (A : Option Addr) (n c : Nat) (i : Int) (w : World) (hn : n ≤ 9223372036854775807) :
    Gives Tryz.prog 96 #[vdesc (.slice A n c), .int .i64 i] w (.bool (decide (0 ≤ i) && decide (i < n))) := by
  unfold vdesc
  by_cases h0 : 0 ≤ i
  · by_cases h1 : i < n
    all_goals
      go_enter Tryz.func96, Tryz.ntmps96
      go_wp2
      go_ret
      exact ⟨ret_bool (by simp [*]), Ext_alloc _ (Ext.refl w)⟩
  · go_enter Tryz.func96, Tryz.ntmps96
    go_wp2
    go_ret
    exact ⟨ret_bool (by simp; omega), Ext_alloc _ (Ext.refl w)⟩
end Go.Proofs.YtjckcbfpejcpcaaGreatDoor

/- Names of rules: FindRule, DescriptionNames, SharedNames. -/
namespace Go.Proofs.YtjckcbfpejcpcaaGreatDoor
open Go.RowKit Go.Sort

/-- the first rule with this name, or -1 -/
def findR (ds : List DRule) (s : ByteArray) : Int := match ds.findIdx? (fun r => r.nm.toList == s.toList) with | some i => (i : Int) | none => -1
def nmsOf (ds : List DRule) : List ByteArray := ds.map DRule.nm
theorem findR_at {ds : List DRule} {s : ByteArray} {k : Nat} (hk : k < ds.length) (h : (ds[k].nm.toList == s.toList) = true) (hn : ∀ j (hj : j < ds.length), j < k → (ds[j].nm.toList == s.toList) = false) : findR ds s = (k : Int) := by
  unfold findR
  have : ds.findIdx? (fun r => r.nm.toList == s.toList) = some k := by
    rw [List.findIdx?_eq_some_iff_getElem]
    exact ⟨hk, h, fun j hj => by rw [hn j (by omega) hj]; simp⟩
  rw [this]
theorem findR_none {ds : List DRule} {s : ByteArray} (hn : ∀ j (hj : j < ds.length), (ds[j].nm.toList == s.toList) = false) : findR ds s = -1 := by
  unfold findR
  have : ds.findIdx? (fun r => r.nm.toList == s.toList) = none := by
    rw [List.findIdx?_eq_none_iff]
    intro x hx
    obtain ⟨j, hj, rfl⟩ := List.getElem_of_mem hx
    exact hn j hj
  rw [this]
theorem findR_has (ds : List DRule) (s : ByteArray) : decide (0 ≤ findR ds s) = hasNm (nmsOf ds) s := by
  unfold findR hasNm nmsOf
  cases h : ds.findIdx? (fun r => r.nm.toList == s.toList) with
  | none =>
    rw [List.findIdx?_eq_none_iff] at h
    have : (ds.map DRule.nm).any (fun x => x.toList == s.toList) = false := by
      rw [List.any_map, List.any_eq_false]
      intro x hx
      have := h x hx
      simp only [Function.comp_apply]
      rw [this]; simp
    rw [this]; simp
  | some i =>
    rw [List.findIdx?_eq_some_iff_getElem] at h
    obtain ⟨hi, h1, _⟩ := h
    have : (ds.map DRule.nm).any (fun x => x.toList == s.toList) = true := by
      rw [List.any_map, List.any_eq_true]
      exact ⟨ds[i], List.getElem_mem hi, h1⟩
    rw [this]; simp
theorem findR_lt (ds : List DRule) (s : ByteArray) : -1 ≤ findR ds s ∧ findR ds s < ds.length ∨ findR ds s = -1 := by
  unfold findR
  cases h : ds.findIdx? (fun r => r.nm.toList == s.toList) with
  | none => exact .inr rfl
  | some i =>
    rw [List.findIdx?_eq_some_iff_getElem] at h
    obtain ⟨hi, _, _⟩ := h
    left; simp only; omega

section
variable {P : Program} {ops : Array Oper} {rest : List Oper} {o : Oper} {a : Act} {Q : Exit → Act → World → Prop}
/-- append(s, y1, .., ym), with what becomes of the block -/
theorem wpList_appNB (hgd : o.guard = none) (s x : Operand) (t : TypeId) (ho : o.op = .call { callee := .builtin .append, args := #[s, x], argTypes := #[t, t] })
    {e : TypeId} {bytes : Nat} {z : Value} (hE : Elem P t e 1 bytes z) (hby : 1 ≤ bytes) (w0 w : World) {α : Type} (f : α → Value) (hf : ∀ x, (f x).oneCell' = true) (v : Value) (hs : a.eval s = v) (m c g : Nat) (hx : a.eval x = .slice (some ⟨g, 0, none⟩) m c) (hg : g = w.heap.size)
    (l ys : List α) (cs : Array Value) (hcs : cs = (ys.map f).toArray) (hown : OwnL f e w0 w v l) (he : Ext w0 w) (hm : m = ys.length)
    (hb : (l.length + ys.length) * bytes ≤ 140737488355328)
    (h : ∀ v' w', OwnL f e w0 w' v' (l ++ ys) → Ext w0 w' → (v'.ownBlock = v.ownBlock ∨ v'.ownBlock = some (w.alloc (.cells cs e)).heap.size) → (w.alloc (.cells cs e)).grownBy w' v.ownBlock → wpList P ops Q rest (a.put o.dst v') w') :
    wpList P ops Q (o :: rest) a (w.alloc (.cells cs e)) := by
  subst hcs; subst hg
  refine wpList_appL hgd s x t ho hE hby w0 _ f hf v hs (some ⟨w.heap.size, 0, none⟩) m c hx l ys (hown.ext (Ext_alloc _ (Ext.refl w))) (Ext_alloc _ he) hm (fun _ => ⟨_, rfl, fun j u hu => ?_⟩) hb h
  rw [World.cell?_alloc_at']; exact hu
end
theorem take_snoc' {α β : Type} (f : α → β) (l : List α) (k : Nat) (hk : k < l.length) : (l.take k).map f ++ [f l[k]] = (l.take (k+1)).map f := by
  rw [List.take_succ_eq_append_getElem hk, List.map_append]; rfl
/-- the names that both have, in the first one's order -/
def shared (a b : List DRule) : List ByteArray := (nmsOf a).filter (hasNm (nmsOf b))
def shr (a b : List DRule) (k : Nat) : List ByteArray := ((a.take k).map DRule.nm).filter (hasNm (nmsOf b))
theorem shr_yes {a b : List DRule} {k : Nat} (hk : k < a.length) (h : hasNm (nmsOf b) a[k].nm = true) : shr a b k ++ [a[k].nm] = shr a b (k+1) := by
  unfold shr; rw [List.take_succ_eq_append_getElem hk, List.map_append, List.filter_append]; simp [h]
theorem shr_no {a b : List DRule} {k : Nat} (hk : k < a.length) (h : hasNm (nmsOf b) a[k].nm = false) : shr a b k = shr a b (k+1) := by
  unfold shr; rw [List.take_succ_eq_append_getElem hk, List.map_append, List.filter_append]; simp [h]
theorem shr_len (a b : List DRule) (k : Nat) : (shr a b k).length ≤ k := by
  unfold shr; have h1 := List.length_filter_le (hasNm (nmsOf b)) ((a.take k).map DRule.nm); rw [List.length_map, List.length_take] at h1; omega
theorem shared_len {a b : List DRule} {n : Nat} (h : szD a ≤ n) : (shared a b).length ≤ n := by
  unfold shared; have h1 := List.length_filter_le (hasNm (nmsOf b)) (nmsOf a); unfold nmsOf at h1 ⊢; rw [List.length_map] at h1; unfold szD at h; omega
end Go.Proofs.YtjckcbfpejcpcaaGreatDoor

/- Which rules can have an entry: facts of a valid description, the kids that count, RootOf. -/
namespace Go.Proofs.YtjckcbfpejcpcaaGreatDoor
open Go.RowKit Go.Sort

theorem allN_at {n k : Nat} {f : Nat → Bool} (h : allN n f = true) (hk : k < n) : f k = true := by
  cases h1 : f k
  · rw [allN_no hk h1] at h; cases h
  · rfl
theorem descOk_len {ds : List DRule} (h : descOk ds = true) : 0 < ds.length ∧ ds.length ≤ 24 := by
  unfold descOk between at h; simp at h; omega
theorem descOk_kid {ds : List DRule} (h : descOk ds = true) (i : Nat) (hi : i < ds.length) (j : Nat) (hj : j < ds[i].kids.length) : 0 ≤ ds[i].kids[j] ∧ ds[i].kids[j] < i := by
  unfold descOk at h
  rw [Bool.and_eq_true] at h
  have h1 := allN_at h.2 hi
  unfold ruleOk at h1
  rw [List.getElem?_eq_getElem hi] at h1
  simp only [Bool.and_eq_true] at h1
  have h2 := allN_at h1.1.2 hj
  unfold kidOk at h2
  rw [List.getElem?_eq_getElem hj] at h2
  unfold between at h2; simp at h2; omega
/-- the kids that count among the first k -/
def selK (r : DRule) (k : Nat) : List Int := if r.kind = 4 ∨ r.kind = 5 ∨ r.kind = 7 then (r.kids.take k).drop 1 else r.kids.take k
theorem selK_all (r : DRule) : selK r r.kids.length = kidsOf r := by unfold selK kidsOf; rw [List.take_length]
theorem selK_zero (r : DRule) : selK r 0 = [] := by unfold selK; simp
theorem selK_step (r : DRule) (k : Nat) (hk : k < r.kids.length) (h : 0 < k ∨ ¬ (r.kind = 4 ∨ r.kind = 5 ∨ r.kind = 7)) : selK r (k+1) = selK r k ++ [r.kids[k]] := by
  unfold selK
  rw [List.take_succ_eq_append_getElem hk]
  split
  · rename_i h1
    rw [List.drop_append_of_le_length (by rw [List.length_take]; rcases h with h | h; omega; exact absurd h1 h)]
  · rfl
theorem selK_skip (r : DRule) (h : r.kind = 4 ∨ r.kind = 5 ∨ r.kind = 7) : selK r 1 = selK r 0 := by
  unfold selK; rw [if_pos h, if_pos h, List.drop_eq_nil_of_le (by rw [List.length_take]; omega)]; simp
theorem setAll_snoc (c : List Bool) (l : List Int) (k : Int) : setAll c (l ++ [k]) = (setAll c l).set k.toNat true := by unfold setAll; rw [List.foldl_append]; rfl
theorem setAll_true (c : List Bool) (l : List Int) (i : Nat) (h : c[i]? = some true) : (setAll c l)[i]? = some true := by
  unfold setAll
  induction l generalizing c with
  | nil => exact h
  | cons a t ih =>
    rw [List.foldl_cons]
    refine ih _ ?_
    rw [List.getElem?_set]
    have hlt : i < c.length := by
      rcases Nat.lt_or_ge i c.length with h' | h'
      · exact h'
      · rw [List.getElem?_eq_none h'] at h; cases h
    split
    · simp; omega
    · exact h
theorem sRoot_c (A : Option Addr) (ds : List DRule) (c : Nat) (w : World) (hl : ds.length ≤ 9223372036854775807) :
    Gives Tryz.prog 30 #[vdesc (.slice A ds.length c)] w (.int .i64 ((ds.length : Int) - 1)) := by
  have eb := Ext_alloc (.cells #[.slice A ds.length c] 35) (Ext.refl w)
  have BX := fun w' (e : Ext (w.alloc (.cells #[.slice A ds.length c] 35)) w') => boxed e
  unfold vdesc
  go_enter Tryz.func30, Tryz.ntmps30
  go_wp2
  go_ret
  exact ⟨ret_i64 (by go_num), eb⟩

theorem iRoot_c (A : Option Addr) (ds : List DRule) (c : Nat) (w : World) (hl : ds.length ≤ 9223372036854775807) :
    Gives Tryz.prog 35 #[vdesc (.slice A ds.length c)] w (.int .i64 ((ds.length : Int) - 1)) := by
  have eb := Ext_alloc (.cells #[.slice A ds.length c] 35) (Ext.refl w)
  have BX := fun w' (e : Ext (w.alloc (.cells #[.slice A ds.length c] 35)) w') => boxed e
  unfold vdesc
  go_enter Tryz.func35, Tryz.ntmps35
  go_wp2
  go_ret
  exact ⟨ret_i64 (by go_num), eb⟩
end Go.Proofs.YtjckcbfpejcpcaaGreatDoor

/- Limits of integers; the fields that a rule may have. -/
namespace Go.Proofs.YtjckcbfpejcpcaaGreatDoor
open Go.RowKit Go.Sort

theorem limD_out {ds : List DRule} {i : Int} (h : ¬ (0 ≤ i ∧ i < ds.length)) : limD ds i = -1 := by
  unfold limD
  split
  · rw [List.getElem?_eq_none (by omega)]
  · rfl
theorem limD_in {ds : List DRule} {k : Nat} (h : k < ds.length) : limD ds (k : Int) = limR ds[k] := by
  unfold limD
  rw [if_pos (by omega), Int.toNat_natCast, List.getElem?_eq_getElem h]
theorem limR_kind {r : DRule} (h : r.kind ≠ 1) : limR r = -1 := by unfold limR; rw [if_neg (by omega)]
theorem limR_size {r : DRule} (h : ¬ (1 ≤ r.size ∧ r.size ≤ 4)) : limR r = -1 := by unfold limR; rw [if_neg (by omega)]
theorem limR_yes {r : DRule} (h : r.kind = 1) (s : Nat) (h1 : 1 ≤ s) (h2 : s ≤ 4) (e : r.size = s) : limR r = 256 ^ s - 1 := by
  unfold limR; rw [if_pos (by omega), e, Int.toNat_natCast]
set_option maxRecDepth 100000 in
set_option maxHeartbeats 2000000 in
theorem iLimit_c (A : Option Addr) (ds : List DRule) (c : Nat) (i : Int) (w : World) (h : RdD w A ds c) :
    Gives Tryz.prog 127 #[vdesc (.slice A ds.length c), .int .i64 i] w (.int .i64 (limD ds i)) := by
  have hl := h.len
  have eb := Ext_alloc (.cells #[.slice A ds.length c] 35) (Ext.refl w)
  have BX := fun w' (e : Ext (w.alloc (.cells #[.slice A ds.length c] 35)) w') => boxed e 0
  simp only [List.getElem?_toArray, List.getElem?_cons_zero] at BX
  have CR := Lib.hid (fun w => hasRule_c A ds.length c i w hl)
  unfold vdesc at *
  by_cases hin : 0 ≤ i ∧ i < ds.length
  · obtain ⟨k, rfl⟩ := Int.eq_ofNat_of_zero_le hin.1
    have hlt : k < ds.length := by omega
    have HI : Hid ((decide ((0 : Int) ≤ (k : Int)) && decide ((k : Int) < (ds.length : Int))) = true) := by show _ = _; simp; omega
    rw [HI.out] at CR
    obtain ⟨b, off, Ab, cb, An, cn, At, ct, Ak, ck, rfl, hb, hS, hR⟩ := h.at k hlt
    have HV := Lib.hid (limD_in hlt)
    rw [HV.out]
    have hR' := hR.ext eb
    clear hR hS h
    generalize ds[k] = r at *
    obtain ⟨k0, k1, k2, k3, k4, k5, k6, k7⟩ := hR'
    clear k0 k3 k4 k5 k6 k7 hin
    by_cases hk : r.kind = 1
    · by_cases hs : 1 ≤ r.size ∧ r.size ≤ 4
      · have hs4 : r.size = ((1 : Nat) : Int) ∨ r.size = ((2 : Nat) : Int) ∨ r.size = ((3 : Nat) : Int) ∨ r.size = ((4 : Nat) : Int) := by omega
        have CI := Lib.hid (fun w => iInRange_c r.size 1 4 w)
        have HJ : Hid ((decide ((1 : Int) ≤ r.size) && decide (r.size ≤ 4)) = true) := by show _ = _; simp; omega
        rw [HJ.out] at CI
        rcases hs4 with e | e | e | e
        · have HL := Lib.hid (limR_yes hk 1 (by omega) (by omega) e)
          rw [HL.out]
          rw [e] at k2 CI
          rw [hk] at k1
          clear hs hk e HJ
          go_enter Tryz.func127, Tryz.ntmps127
          go_wp2_with fail
          refine (CR.out _).mono ?_; rintro _ w1 ⟨rfl, he1⟩
          go_wp2_with fail
          refine (CI.out _).mono ?_; rintro _ w2 ⟨rfl, he2⟩
          have e2 := he1.trans he2
          go_wp2
          go_ret
          exact ⟨ret_i64 (by simp), eb.trans e2⟩
        · have HL := Lib.hid (limR_yes hk 2 (by omega) (by omega) e)
          rw [HL.out]
          rw [e] at k2 CI
          rw [hk] at k1
          clear hs hk e HJ
          go_enter Tryz.func127, Tryz.ntmps127
          go_wp2_with fail
          refine (CR.out _).mono ?_; rintro _ w1 ⟨rfl, he1⟩
          go_wp2_with fail
          refine (CI.out _).mono ?_; rintro _ w2 ⟨rfl, he2⟩
          have e2 := he1.trans he2
          go_wp2
          go_ret
          exact ⟨ret_i64 (by simp), eb.trans e2⟩
        · have HL := Lib.hid (limR_yes hk 3 (by omega) (by omega) e)
          rw [HL.out]
          rw [e] at k2 CI
          rw [hk] at k1
          clear hs hk e HJ
          go_enter Tryz.func127, Tryz.ntmps127
          go_wp2_with fail
          refine (CR.out _).mono ?_; rintro _ w1 ⟨rfl, he1⟩
          go_wp2_with fail
          refine (CI.out _).mono ?_; rintro _ w2 ⟨rfl, he2⟩
          have e2 := he1.trans he2
          go_wp2
          go_ret
          exact ⟨ret_i64 (by simp), eb.trans e2⟩
        · have HL := Lib.hid (limR_yes hk 4 (by omega) (by omega) e)
          rw [HL.out]
          rw [e] at k2 CI
          rw [hk] at k1
          clear hs hk e HJ
          go_enter Tryz.func127, Tryz.ntmps127
          go_wp2_with fail
          refine (CR.out _).mono ?_; rintro _ w1 ⟨rfl, he1⟩
          go_wp2_with fail
          refine (CI.out _).mono ?_; rintro _ w2 ⟨rfl, he2⟩
          have e2 := he1.trans he2
          go_wp2
          go_ret
          exact ⟨ret_i64 (by simp), eb.trans e2⟩
      · have CI := Lib.hid (fun w => iInRange_c r.size 1 4 w)
        have HJ : Hid ((decide ((1 : Int) ≤ r.size) && decide (r.size ≤ 4)) = false) := by show _ = _; rw [Bool.and_eq_false_iff]; simp; omega
        rw [HJ.out] at CI
        have HL := Lib.hid (limR_size hs)
        rw [HL.out]
        rw [hk] at k1
        clear hs hk HJ
        go_enter Tryz.func127, Tryz.ntmps127
        go_wp2_with fail
        refine (CR.out _).mono ?_; rintro _ w1 ⟨rfl, he1⟩
        go_wp2_with fail
        refine (CI.out _).mono ?_; rintro _ w2 ⟨rfl, he2⟩
        go_wp2
        go_ret
        exact ⟨rfl, eb.trans (he1.trans he2)⟩
    · have HL := Lib.hid (limR_kind hk)
      rw [HL.out]
      have hk1 : (r.kind != 1) = true := by simpa using hk
      go_enter Tryz.func127, Tryz.ntmps127
      go_wp2_with fail
      refine (CR.out _).mono ?_; rintro _ w1 ⟨rfl, he1⟩
      go_wp2
      go_ret
      exact ⟨rfl, eb.trans he1⟩
  · have HI : Hid ((decide ((0 : Int) ≤ i) && decide (i < (ds.length : Int))) = false) := by show _ = _; rw [Bool.and_eq_false_iff]; simp; omega
    rw [HI.out] at CR
    have HL := Lib.hid (limD_out hin)
    rw [HL.out]
    clear hin
    go_enter Tryz.func127, Tryz.ntmps127
    go_wp2_with fail
    refine (CR.out _).mono ?_; rintro _ w1 ⟨rfl, he1⟩
    go_wp2
    go_ret
    exact ⟨rfl, eb.trans he1⟩
set_option maxHeartbeats 400000 in
theorem l2PowerN_c (s : Nat) (w : World) (h1 : 1 ≤ s) (h2 : s ≤ 4) : Gives Tryz.prog 108 #[.int .i64 (s : Int)] w (.int .i64 (256 ^ s)) := by
  rcases (by omega : s = 1 ∨ s = 2 ∨ s = 3 ∨ s = 4) with rfl | rfl | rfl | rfl
  all_goals
    go_enter Tryz.func108, Tryz.ntmps108
    go_wp2
    go_ret
    exact ⟨ret_i64 (by simp), Ext.refl _⟩
set_option maxRecDepth 100000 in
set_option maxHeartbeats 2000000 in
theorem sLimit_c (A : Option Addr) (ds : List DRule) (c : Nat) (i : Int) (w : World) (h : RdD w A ds c) :
    Gives Tryz.prog 114 #[vdesc (.slice A ds.length c), .int .i64 i] w (.int .i64 (limD ds i)) := by
  have hl := h.len
  have eb := Ext_alloc (.cells #[.slice A ds.length c] 35) (Ext.refl w)
  have BX := fun w' (e : Ext (w.alloc (.cells #[.slice A ds.length c] 35)) w') => boxed e 0
  simp only [List.getElem?_toArray, List.getElem?_cons_zero] at BX
  have CR := Lib.hid (fun w => l1In_c i 0 ((ds.length : Int) - 1) w)
  unfold vdesc at *
  by_cases hin : 0 ≤ i ∧ i < ds.length
  · obtain ⟨k, rfl⟩ := Int.eq_ofNat_of_zero_le hin.1
    have hlt : k < ds.length := by omega
    have HI : Hid ((decide ((0 : Int) ≤ (k : Int)) && decide ((k : Int) ≤ (ds.length : Int) - 1)) = true) := by show _ = _; simp; omega
    rw [HI.out] at CR
    obtain ⟨b, off, Ab, cb, An, cn, At, ct, Ak, ck, rfl, hb, hS, hR⟩ := h.at k hlt
    have HV := Lib.hid (limD_in hlt)
    rw [HV.out]
    have hR' := hR.ext eb
    clear hR hS h
    generalize ds[k] = r at *
    obtain ⟨k0, k1, k2, k3, k4, k5, k6, k7⟩ := hR'
    clear k0 k3 k4 k5 k6 k7 hin
    by_cases hk : r.kind = 1
    · by_cases hs : 1 ≤ r.size ∧ r.size ≤ 4
      · have hs4 : r.size = ((1 : Nat) : Int) ∨ r.size = ((2 : Nat) : Int) ∨ r.size = ((3 : Nat) : Int) ∨ r.size = ((4 : Nat) : Int) := by omega
        have CI := Lib.hid (fun w => l1In_c r.size 1 4 w)
        have HJ : Hid ((decide ((1 : Int) ≤ r.size) && decide (r.size ≤ 4)) = true) := by show _ = _; simp; omega
        rw [HJ.out] at CI
        rcases hs4 with e | e | e | e
        · have HL := Lib.hid (limR_yes hk 1 (by omega) (by omega) e)
          rw [HL.out]
          rw [e] at k2 CI
          rw [hk] at k1
          clear hs hk e HJ
          go_enter Tryz.func114, Tryz.ntmps114
          go_wp2_with fail
          refine (CR.out _).mono ?_; rintro _ w1 ⟨rfl, he1⟩
          go_wp2_with fail
          refine (CI.out _).mono ?_; rintro _ w2 ⟨rfl, he2⟩
          have e2 := he1.trans he2
          go_wp2_with fail
          refine (l2PowerN_c 1 _ (by omega) (by omega)).mono ?_
          rintro _ w3 ⟨rfl, he3⟩
          have e3 := e2.trans he3
          go_wp2
          go_ret
          exact ⟨ret_i64 (by simp), eb.trans e3⟩
        · have HL := Lib.hid (limR_yes hk 2 (by omega) (by omega) e)
          rw [HL.out]
          rw [e] at k2 CI
          rw [hk] at k1
          clear hs hk e HJ
          go_enter Tryz.func114, Tryz.ntmps114
          go_wp2_with fail
          refine (CR.out _).mono ?_; rintro _ w1 ⟨rfl, he1⟩
          go_wp2_with fail
          refine (CI.out _).mono ?_; rintro _ w2 ⟨rfl, he2⟩
          have e2 := he1.trans he2
          go_wp2_with fail
          refine (l2PowerN_c 2 _ (by omega) (by omega)).mono ?_
          rintro _ w3 ⟨rfl, he3⟩
          have e3 := e2.trans he3
          go_wp2
          go_ret
          exact ⟨ret_i64 (by simp), eb.trans e3⟩
        · have HL := Lib.hid (limR_yes hk 3 (by omega) (by omega) e)
          rw [HL.out]
          rw [e] at k2 CI
          rw [hk] at k1
          clear hs hk e HJ
          go_enter Tryz.func114, Tryz.ntmps114
          go_wp2_with fail
          refine (CR.out _).mono ?_; rintro _ w1 ⟨rfl, he1⟩
          go_wp2_with fail
          refine (CI.out _).mono ?_; rintro _ w2 ⟨rfl, he2⟩
          have e2 := he1.trans he2
          go_wp2_with fail
          refine (l2PowerN_c 3 _ (by omega) (by omega)).mono ?_
          rintro _ w3 ⟨rfl, he3⟩
          have e3 := e2.trans he3
          go_wp2
          go_ret
          exact ⟨ret_i64 (by simp), eb.trans e3⟩
        · have HL := Lib.hid (limR_yes hk 4 (by omega) (by omega) e)
          rw [HL.out]
          rw [e] at k2 CI
          rw [hk] at k1
          clear hs hk e HJ
          go_enter Tryz.func114, Tryz.ntmps114
          go_wp2_with fail
          refine (CR.out _).mono ?_; rintro _ w1 ⟨rfl, he1⟩
          go_wp2_with fail
          refine (CI.out _).mono ?_; rintro _ w2 ⟨rfl, he2⟩
          have e2 := he1.trans he2
          go_wp2_with fail
          refine (l2PowerN_c 4 _ (by omega) (by omega)).mono ?_
          rintro _ w3 ⟨rfl, he3⟩
          have e3 := e2.trans he3
          go_wp2
          go_ret
          exact ⟨ret_i64 (by simp), eb.trans e3⟩
      · have CI := Lib.hid (fun w => l1In_c r.size 1 4 w)
        have HJ : Hid ((decide ((1 : Int) ≤ r.size) && decide (r.size ≤ 4)) = false) := by show _ = _; rw [Bool.and_eq_false_iff]; simp; omega
        rw [HJ.out] at CI
        have HL := Lib.hid (limR_size hs)
        rw [HL.out]
        rw [hk] at k1
        clear hs hk HJ
        go_enter Tryz.func114, Tryz.ntmps114
        go_wp2_with fail
        refine (CR.out _).mono ?_; rintro _ w1 ⟨rfl, he1⟩
        go_wp2_with fail
        refine (CI.out _).mono ?_; rintro _ w2 ⟨rfl, he2⟩
        go_wp2
        go_ret
        exact ⟨rfl, eb.trans (he1.trans he2)⟩
    · have HL := Lib.hid (limR_kind hk)
      rw [HL.out]
      have hk1 : (r.kind != 1) = true := by simpa using hk
      go_enter Tryz.func114, Tryz.ntmps114
      go_wp2_with fail
      refine (CR.out _).mono ?_; rintro _ w1 ⟨rfl, he1⟩
      go_wp2
      go_ret
      exact ⟨rfl, eb.trans he1⟩
  · have HI : Hid ((decide ((0 : Int) ≤ i) && decide (i ≤ (ds.length : Int) - 1)) = false) := by show _ = _; rw [Bool.and_eq_false_iff]; simp; omega
    rw [HI.out] at CR
    have HL := Lib.hid (limD_out hin)
    rw [HL.out]
    clear hin
    go_enter Tryz.func114, Tryz.ntmps114
    go_wp2_with fail
    refine (CR.out _).mono ?_; rintro _ w1 ⟨rfl, he1⟩
    go_wp2
    go_ret
    exact ⟨rfl, eb.trans he1⟩
end Go.Proofs.YtjckcbfpejcpcaaGreatDoor

/- The fields that a rule may have. -/
namespace Go.Proofs.YtjckcbfpejcpcaaGreatDoor
open Go.RowKit Go.Sort

set_option maxHeartbeats 2000000 in
theorem iPlain1000_c (r : DRule) (Ab : Option Addr) (cb : Nat) (An : Option Addr) (cn : Nat) (At : Option Addr) (ct : Nat) (Ak : Option Addr) (ck : Nat) (kids : Int) (w : World) (hl : r.bytes.length ≤ 9223372036854775807 ∧ r.names.length ≤ 9223372036854775807 ∧ r.tags.length ≤ 9223372036854775807 ∧ r.kids.length ≤ 9223372036854775807) :
    Gives Tryz.prog 150 #[vrule r (.slice Ab r.bytes.length cb) (.slice An r.names.length cn) (.slice At r.tags.length ct) (.slice Ak r.kids.length ck), .bool true, .bool false, .bool false, .bool false, .int .i64 kids] w (.bool (plainB r true false false false kids)) := by
  obtain ⟨l1, l2, l3, l4⟩ := hl
  unfold plainB
  obtain ⟨nm, kind, size, little, bytes, names, tags, kd⟩ := r
  unfold vrule
  dsimp only at *
  cases g_bytes : (bytes.length == 0)
  · have k_bytes : (((bytes.length : Nat) : Int) == 0) = false := by simpa using g_bytes
    go_enter Tryz.func150, Tryz.ntmps150
    go_wp2
    go_ret
    exact ⟨ret_bool (by simp [*]), Ext_alloc _ (Ext.refl w)⟩
  have k_bytes : (((bytes.length : Nat) : Int) == 0) = true := by simpa using g_bytes
  cases g_names : (names.length == 0)
  · have k_names : (((names.length : Nat) : Int) == 0) = false := by simpa using g_names
    go_enter Tryz.func150, Tryz.ntmps150
    go_wp2
    go_ret
    exact ⟨ret_bool (by simp [*]), Ext_alloc _ (Ext.refl w)⟩
  have k_names : (((names.length : Nat) : Int) == 0) = true := by simpa using g_names
  cases g_tags : (tags.length == 0)
  · have k_tags : (((tags.length : Nat) : Int) == 0) = false := by simpa using g_tags
    go_enter Tryz.func150, Tryz.ntmps150
    go_wp2
    go_ret
    exact ⟨ret_bool (by simp [*]), Ext_alloc _ (Ext.refl w)⟩
  have k_tags : (((tags.length : Nat) : Int) == 0) = true := by simpa using g_tags
  by_cases hk : kids < 0
  · have dk : decide (kids < 0) = true := by simpa using hk
    go_enter Tryz.func150, Tryz.ntmps150
    go_wp2
    go_ret
    exact ⟨ret_bool (by simp [*]), Ext_alloc _ (Ext.refl w)⟩
  · have dk : decide (kids < 0) = false := by simpa using hk
    by_cases hq : ((kd.length : Int) = kids)
    · have k_kids : ((kd.length : Int) == kids) = true := by simpa using hq
      have HQ := Lib.hid hq; clear hq
      go_enter Tryz.func150, Tryz.ntmps150
      go_wp2
      go_ret
      exact ⟨ret_bool (by have := HQ.out; simp [*]), Ext_alloc _ (Ext.refl w)⟩
    · have k_kids : ((kd.length : Int) == kids) = false := by simpa using hq
      go_enter Tryz.func150, Tryz.ntmps150
      go_wp2
      go_ret
      exact ⟨ret_bool (by simp [*]), Ext_alloc _ (Ext.refl w)⟩
set_option maxHeartbeats 2000000 in
theorem iPlain0100_c (r : DRule) (Ab : Option Addr) (cb : Nat) (An : Option Addr) (cn : Nat) (At : Option Addr) (ct : Nat) (Ak : Option Addr) (ck : Nat) (kids : Int) (w : World) (hl : r.bytes.length ≤ 9223372036854775807 ∧ r.names.length ≤ 9223372036854775807 ∧ r.tags.length ≤ 9223372036854775807 ∧ r.kids.length ≤ 9223372036854775807) :
    Gives Tryz.prog 150 #[vrule r (.slice Ab r.bytes.length cb) (.slice An r.names.length cn) (.slice At r.tags.length ct) (.slice Ak r.kids.length ck), .bool false, .bool true, .bool false, .bool false, .int .i64 kids] w (.bool (plainB r false true false false kids)) := by
  obtain ⟨l1, l2, l3, l4⟩ := hl
  unfold plainB
  obtain ⟨nm, kind, size, little, bytes, names, tags, kd⟩ := r
  unfold vrule
  dsimp only at *
  cases g_size : (size == 0)
  · skip
    go_enter Tryz.func150, Tryz.ntmps150
    go_wp2
    go_ret
    exact ⟨ret_bool (by simp [*]), Ext_alloc _ (Ext.refl w)⟩
  cases g_names : (names.length == 0)
  · have k_names : (((names.length : Nat) : Int) == 0) = false := by simpa using g_names
    go_enter Tryz.func150, Tryz.ntmps150
    go_wp2
    go_ret
    exact ⟨ret_bool (by simp [*]), Ext_alloc _ (Ext.refl w)⟩
  have k_names : (((names.length : Nat) : Int) == 0) = true := by simpa using g_names
  cases g_tags : (tags.length == 0)
  · have k_tags : (((tags.length : Nat) : Int) == 0) = false := by simpa using g_tags
    go_enter Tryz.func150, Tryz.ntmps150
    go_wp2
    go_ret
    exact ⟨ret_bool (by simp [*]), Ext_alloc _ (Ext.refl w)⟩
  have k_tags : (((tags.length : Nat) : Int) == 0) = true := by simpa using g_tags
  by_cases hk : kids < 0
  · have dk : decide (kids < 0) = true := by simpa using hk
    go_enter Tryz.func150, Tryz.ntmps150
    go_wp2
    go_ret
    exact ⟨ret_bool (by simp [*]), Ext_alloc _ (Ext.refl w)⟩
  · have dk : decide (kids < 0) = false := by simpa using hk
    by_cases hq : ((kd.length : Int) = kids)
    · have k_kids : ((kd.length : Int) == kids) = true := by simpa using hq
      have HQ := Lib.hid hq; clear hq
      go_enter Tryz.func150, Tryz.ntmps150
      go_wp2
      go_ret
      exact ⟨ret_bool (by have := HQ.out; simp [*]), Ext_alloc _ (Ext.refl w)⟩
    · have k_kids : ((kd.length : Int) == kids) = false := by simpa using hq
      go_enter Tryz.func150, Tryz.ntmps150
      go_wp2
      go_ret
      exact ⟨ret_bool (by simp [*]), Ext_alloc _ (Ext.refl w)⟩
set_option maxHeartbeats 2000000 in
theorem iPlain0000_c (r : DRule) (Ab : Option Addr) (cb : Nat) (An : Option Addr) (cn : Nat) (At : Option Addr) (ct : Nat) (Ak : Option Addr) (ck : Nat) (kids : Int) (w : World) (hl : r.bytes.length ≤ 9223372036854775807 ∧ r.names.length ≤ 9223372036854775807 ∧ r.tags.length ≤ 9223372036854775807 ∧ r.kids.length ≤ 9223372036854775807) :
    Gives Tryz.prog 150 #[vrule r (.slice Ab r.bytes.length cb) (.slice An r.names.length cn) (.slice At r.tags.length ct) (.slice Ak r.kids.length ck), .bool false, .bool false, .bool false, .bool false, .int .i64 kids] w (.bool (plainB r false false false false kids)) := by
  obtain ⟨l1, l2, l3, l4⟩ := hl
  unfold plainB
  obtain ⟨nm, kind, size, little, bytes, names, tags, kd⟩ := r
  unfold vrule
  dsimp only at *
  cases g_size : (size == 0)
  · skip
    go_enter Tryz.func150, Tryz.ntmps150
    go_wp2
    go_ret
    exact ⟨ret_bool (by simp [*]), Ext_alloc _ (Ext.refl w)⟩
  cases g_bytes : (bytes.length == 0)
  · have k_bytes : (((bytes.length : Nat) : Int) == 0) = false := by simpa using g_bytes
    go_enter Tryz.func150, Tryz.ntmps150
    go_wp2
    go_ret
    exact ⟨ret_bool (by simp [*]), Ext_alloc _ (Ext.refl w)⟩
  have k_bytes : (((bytes.length : Nat) : Int) == 0) = true := by simpa using g_bytes
  cases g_names : (names.length == 0)
  · have k_names : (((names.length : Nat) : Int) == 0) = false := by simpa using g_names
    go_enter Tryz.func150, Tryz.ntmps150
    go_wp2
    go_ret
    exact ⟨ret_bool (by simp [*]), Ext_alloc _ (Ext.refl w)⟩
  have k_names : (((names.length : Nat) : Int) == 0) = true := by simpa using g_names
  cases g_tags : (tags.length == 0)
  · have k_tags : (((tags.length : Nat) : Int) == 0) = false := by simpa using g_tags
    go_enter Tryz.func150, Tryz.ntmps150
    go_wp2
    go_ret
    exact ⟨ret_bool (by simp [*]), Ext_alloc _ (Ext.refl w)⟩
  have k_tags : (((tags.length : Nat) : Int) == 0) = true := by simpa using g_tags
  by_cases hk : kids < 0
  · have dk : decide (kids < 0) = true := by simpa using hk
    go_enter Tryz.func150, Tryz.ntmps150
    go_wp2
    go_ret
    exact ⟨ret_bool (by simp [*]), Ext_alloc _ (Ext.refl w)⟩
  · have dk : decide (kids < 0) = false := by simpa using hk
    by_cases hq : ((kd.length : Int) = kids)
    · have k_kids : ((kd.length : Int) == kids) = true := by simpa using hq
      have HQ := Lib.hid hq; clear hq
      go_enter Tryz.func150, Tryz.ntmps150
      go_wp2
      go_ret
      exact ⟨ret_bool (by have := HQ.out; simp [*]), Ext_alloc _ (Ext.refl w)⟩
    · have k_kids : ((kd.length : Int) == kids) = false := by simpa using hq
      go_enter Tryz.func150, Tryz.ntmps150
      go_wp2
      go_ret
      exact ⟨ret_bool (by simp [*]), Ext_alloc _ (Ext.refl w)⟩
set_option maxHeartbeats 2000000 in
theorem iPlain0010_c (r : DRule) (Ab : Option Addr) (cb : Nat) (An : Option Addr) (cn : Nat) (At : Option Addr) (ct : Nat) (Ak : Option Addr) (ck : Nat) (kids : Int) (w : World) (hl : r.bytes.length ≤ 9223372036854775807 ∧ r.names.length ≤ 9223372036854775807 ∧ r.tags.length ≤ 9223372036854775807 ∧ r.kids.length ≤ 9223372036854775807) :
    Gives Tryz.prog 150 #[vrule r (.slice Ab r.bytes.length cb) (.slice An r.names.length cn) (.slice At r.tags.length ct) (.slice Ak r.kids.length ck), .bool false, .bool false, .bool true, .bool false, .int .i64 kids] w (.bool (plainB r false false true false kids)) := by
  obtain ⟨l1, l2, l3, l4⟩ := hl
  unfold plainB
  obtain ⟨nm, kind, size, little, bytes, names, tags, kd⟩ := r
  unfold vrule
  dsimp only at *
  cases g_size : (size == 0)
  · skip
    go_enter Tryz.func150, Tryz.ntmps150
    go_wp2
    go_ret
    exact ⟨ret_bool (by simp [*]), Ext_alloc _ (Ext.refl w)⟩
  cases g_bytes : (bytes.length == 0)
  · have k_bytes : (((bytes.length : Nat) : Int) == 0) = false := by simpa using g_bytes
    go_enter Tryz.func150, Tryz.ntmps150
    go_wp2
    go_ret
    exact ⟨ret_bool (by simp [*]), Ext_alloc _ (Ext.refl w)⟩
  have k_bytes : (((bytes.length : Nat) : Int) == 0) = true := by simpa using g_bytes
  cases g_tags : (tags.length == 0)
  · have k_tags : (((tags.length : Nat) : Int) == 0) = false := by simpa using g_tags
    go_enter Tryz.func150, Tryz.ntmps150
    go_wp2
    go_ret
    exact ⟨ret_bool (by simp [*]), Ext_alloc _ (Ext.refl w)⟩
  have k_tags : (((tags.length : Nat) : Int) == 0) = true := by simpa using g_tags
  by_cases hk : kids < 0
  · have dk : decide (kids < 0) = true := by simpa using hk
    go_enter Tryz.func150, Tryz.ntmps150
    go_wp2
    go_ret
    exact ⟨ret_bool (by simp [*]), Ext_alloc _ (Ext.refl w)⟩
  · have dk : decide (kids < 0) = false := by simpa using hk
    by_cases hq : ((kd.length : Int) = kids)
    · have k_kids : ((kd.length : Int) == kids) = true := by simpa using hq
      have HQ := Lib.hid hq; clear hq
      go_enter Tryz.func150, Tryz.ntmps150
      go_wp2
      go_ret
      exact ⟨ret_bool (by have := HQ.out; simp [*]), Ext_alloc _ (Ext.refl w)⟩
    · have k_kids : ((kd.length : Int) == kids) = false := by simpa using hq
      go_enter Tryz.func150, Tryz.ntmps150
      go_wp2
      go_ret
      exact ⟨ret_bool (by simp [*]), Ext_alloc _ (Ext.refl w)⟩
set_option maxHeartbeats 2000000 in
theorem iPlain0001_c (r : DRule) (Ab : Option Addr) (cb : Nat) (An : Option Addr) (cn : Nat) (At : Option Addr) (ct : Nat) (Ak : Option Addr) (ck : Nat) (kids : Int) (w : World) (hl : r.bytes.length ≤ 9223372036854775807 ∧ r.names.length ≤ 9223372036854775807 ∧ r.tags.length ≤ 9223372036854775807 ∧ r.kids.length ≤ 9223372036854775807) :
    Gives Tryz.prog 150 #[vrule r (.slice Ab r.bytes.length cb) (.slice An r.names.length cn) (.slice At r.tags.length ct) (.slice Ak r.kids.length ck), .bool false, .bool false, .bool false, .bool true, .int .i64 kids] w (.bool (plainB r false false false true kids)) := by
  obtain ⟨l1, l2, l3, l4⟩ := hl
  unfold plainB
  obtain ⟨nm, kind, size, little, bytes, names, tags, kd⟩ := r
  unfold vrule
  dsimp only at *
  cases g_size : (size == 0)
  · skip
    go_enter Tryz.func150, Tryz.ntmps150
    go_wp2
    go_ret
    exact ⟨ret_bool (by simp [*]), Ext_alloc _ (Ext.refl w)⟩
  cases g_bytes : (bytes.length == 0)
  · have k_bytes : (((bytes.length : Nat) : Int) == 0) = false := by simpa using g_bytes
    go_enter Tryz.func150, Tryz.ntmps150
    go_wp2
    go_ret
    exact ⟨ret_bool (by simp [*]), Ext_alloc _ (Ext.refl w)⟩
  have k_bytes : (((bytes.length : Nat) : Int) == 0) = true := by simpa using g_bytes
  cases g_names : (names.length == 0)
  · have k_names : (((names.length : Nat) : Int) == 0) = false := by simpa using g_names
    go_enter Tryz.func150, Tryz.ntmps150
    go_wp2
    go_ret
    exact ⟨ret_bool (by simp [*]), Ext_alloc _ (Ext.refl w)⟩
  have k_names : (((names.length : Nat) : Int) == 0) = true := by simpa using g_names
  by_cases hk : kids < 0
  · have dk : decide (kids < 0) = true := by simpa using hk
    go_enter Tryz.func150, Tryz.ntmps150
    go_wp2
    go_ret
    exact ⟨ret_bool (by simp [*]), Ext_alloc _ (Ext.refl w)⟩
  · have dk : decide (kids < 0) = false := by simpa using hk
    by_cases hq : ((kd.length : Int) = kids)
    · have k_kids : ((kd.length : Int) == kids) = true := by simpa using hq
      have HQ := Lib.hid hq; clear hq
      go_enter Tryz.func150, Tryz.ntmps150
      go_wp2
      go_ret
      exact ⟨ret_bool (by have := HQ.out; simp [*]), Ext_alloc _ (Ext.refl w)⟩
    · have k_kids : ((kd.length : Int) == kids) = false := by simpa using hq
      go_enter Tryz.func150, Tryz.ntmps150
      go_wp2
      go_ret
      exact ⟨ret_bool (by simp [*]), Ext_alloc _ (Ext.refl w)⟩
end Go.Proofs.YtjckcbfpejcpcaaGreatDoor

/- The fields that a rule may have, of the reference. -/
namespace Go.Proofs.YtjckcbfpejcpcaaGreatDoor
open Go.RowKit Go.Sort

set_option maxHeartbeats 2000000 in
theorem sShape1000_c (r : DRule) (Ab : Option Addr) (cb : Nat) (An : Option Addr) (cn : Nat) (At : Option Addr) (ct : Nat) (Ak : Option Addr) (ck : Nat) (kids : Int) (w : World) (hl : r.bytes.length ≤ 9223372036854775807 ∧ r.names.length ≤ 9223372036854775807 ∧ r.tags.length ≤ 9223372036854775807 ∧ r.kids.length ≤ 9223372036854775807) :
    Gives Tryz.prog 142 #[vrule r (.slice Ab r.bytes.length cb) (.slice An r.names.length cn) (.slice At r.tags.length ct) (.slice Ak r.kids.length ck), .bool true, .bool false, .bool false, .bool false, .int .i64 kids] w (.bool (plainB r true false false false kids && (!r.little || r.kind == 1))) := by
  obtain ⟨l1, l2, l3, l4⟩ := hl
  unfold plainB
  obtain ⟨nm, kind, size, little, bytes, names, tags, kd⟩ := r
  unfold vrule
  dsimp only at *
  cases g_bytes : (bytes.length == 0)
  · have k_bytes : (((bytes.length : Nat) : Int) == 0) = false := by simpa using g_bytes
    go_enter Tryz.func142, Tryz.ntmps142
    go_wp2
    go_ret
    exact ⟨ret_bool (by simp [*]), Ext_alloc _ (Ext.refl w)⟩
  have k_bytes : (((bytes.length : Nat) : Int) == 0) = true := by simpa using g_bytes
  cases g_names : (names.length == 0)
  · have k_names : (((names.length : Nat) : Int) == 0) = false := by simpa using g_names
    go_enter Tryz.func142, Tryz.ntmps142
    go_wp2
    go_ret
    exact ⟨ret_bool (by simp [*]), Ext_alloc _ (Ext.refl w)⟩
  have k_names : (((names.length : Nat) : Int) == 0) = true := by simpa using g_names
  cases g_tags : (tags.length == 0)
  · have k_tags : (((tags.length : Nat) : Int) == 0) = false := by simpa using g_tags
    go_enter Tryz.func142, Tryz.ntmps142
    go_wp2
    go_ret
    exact ⟨ret_bool (by simp [*]), Ext_alloc _ (Ext.refl w)⟩
  have k_tags : (((tags.length : Nat) : Int) == 0) = true := by simpa using g_tags
  by_cases hk : kids < 0
  · have dk : decide (kids < 0) = true := by simpa using hk
    cases little
    · go_enter Tryz.func142, Tryz.ntmps142
      go_wp2
      go_ret
      exact ⟨ret_bool (by simp [*]), Ext_alloc _ (Ext.refl w)⟩
    · cases g_kind : (kind == 1)
      all_goals
        go_enter Tryz.func142, Tryz.ntmps142
        go_wp2
        go_ret
        exact ⟨ret_bool (by simp [*]), Ext_alloc _ (Ext.refl w)⟩
  · have dk : decide (kids < 0) = false := by simpa using hk
    by_cases hq : ((kd.length : Int) = kids)
    · have k_kids : ((kd.length : Int) == kids) = true := by simpa using hq
      have HQ := Lib.hid hq; clear hq
      cases little
      · go_enter Tryz.func142, Tryz.ntmps142
        go_wp2
        go_ret
        exact ⟨ret_bool (by have := HQ.out; simp [*]), Ext_alloc _ (Ext.refl w)⟩
      · cases g_kind : (kind == 1)
        all_goals
          go_enter Tryz.func142, Tryz.ntmps142
          go_wp2
          go_ret
          exact ⟨ret_bool (by have := HQ.out; simp [*]), Ext_alloc _ (Ext.refl w)⟩
    · have k_kids : ((kd.length : Int) == kids) = false := by simpa using hq
      go_enter Tryz.func142, Tryz.ntmps142
      go_wp2
      go_ret
      exact ⟨ret_bool (by simp [*]), Ext_alloc _ (Ext.refl w)⟩
set_option maxHeartbeats 2000000 in
theorem sShape0100_c (r : DRule) (Ab : Option Addr) (cb : Nat) (An : Option Addr) (cn : Nat) (At : Option Addr) (ct : Nat) (Ak : Option Addr) (ck : Nat) (kids : Int) (w : World) (hl : r.bytes.length ≤ 9223372036854775807 ∧ r.names.length ≤ 9223372036854775807 ∧ r.tags.length ≤ 9223372036854775807 ∧ r.kids.length ≤ 9223372036854775807) :
    Gives Tryz.prog 142 #[vrule r (.slice Ab r.bytes.length cb) (.slice An r.names.length cn) (.slice At r.tags.length ct) (.slice Ak r.kids.length ck), .bool false, .bool true, .bool false, .bool false, .int .i64 kids] w (.bool (plainB r false true false false kids && (!r.little || r.kind == 1))) := by
  obtain ⟨l1, l2, l3, l4⟩ := hl
  unfold plainB
  obtain ⟨nm, kind, size, little, bytes, names, tags, kd⟩ := r
  unfold vrule
  dsimp only at *
  cases g_size : (size == 0)
  · skip
    go_enter Tryz.func142, Tryz.ntmps142
    go_wp2
    go_ret
    exact ⟨ret_bool (by simp [*]), Ext_alloc _ (Ext.refl w)⟩
  cases g_names : (names.length == 0)
  · have k_names : (((names.length : Nat) : Int) == 0) = false := by simpa using g_names
    go_enter Tryz.func142, Tryz.ntmps142
    go_wp2
    go_ret
    exact ⟨ret_bool (by simp [*]), Ext_alloc _ (Ext.refl w)⟩
  have k_names : (((names.length : Nat) : Int) == 0) = true := by simpa using g_names
  cases g_tags : (tags.length == 0)
  · have k_tags : (((tags.length : Nat) : Int) == 0) = false := by simpa using g_tags
    go_enter Tryz.func142, Tryz.ntmps142
    go_wp2
    go_ret
    exact ⟨ret_bool (by simp [*]), Ext_alloc _ (Ext.refl w)⟩
  have k_tags : (((tags.length : Nat) : Int) == 0) = true := by simpa using g_tags
  by_cases hk : kids < 0
  · have dk : decide (kids < 0) = true := by simpa using hk
    cases little
    · go_enter Tryz.func142, Tryz.ntmps142
      go_wp2
      go_ret
      exact ⟨ret_bool (by simp [*]), Ext_alloc _ (Ext.refl w)⟩
    · cases g_kind : (kind == 1)
      all_goals
        go_enter Tryz.func142, Tryz.ntmps142
        go_wp2
        go_ret
        exact ⟨ret_bool (by simp [*]), Ext_alloc _ (Ext.refl w)⟩
  · have dk : decide (kids < 0) = false := by simpa using hk
    by_cases hq : ((kd.length : Int) = kids)
    · have k_kids : ((kd.length : Int) == kids) = true := by simpa using hq
      have HQ := Lib.hid hq; clear hq
      cases little
      · go_enter Tryz.func142, Tryz.ntmps142
        go_wp2
        go_ret
        exact ⟨ret_bool (by have := HQ.out; simp [*]), Ext_alloc _ (Ext.refl w)⟩
      · cases g_kind : (kind == 1)
        all_goals
          go_enter Tryz.func142, Tryz.ntmps142
          go_wp2
          go_ret
          exact ⟨ret_bool (by have := HQ.out; simp [*]), Ext_alloc _ (Ext.refl w)⟩
    · have k_kids : ((kd.length : Int) == kids) = false := by simpa using hq
      go_enter Tryz.func142, Tryz.ntmps142
      go_wp2
      go_ret
      exact ⟨ret_bool (by simp [*]), Ext_alloc _ (Ext.refl w)⟩
set_option maxHeartbeats 2000000 in
theorem sShape0000_c (r : DRule) (Ab : Option Addr) (cb : Nat) (An : Option Addr) (cn : Nat) (At : Option Addr) (ct : Nat) (Ak : Option Addr) (ck : Nat) (kids : Int) (w : World) (hl : r.bytes.length ≤ 9223372036854775807 ∧ r.names.length ≤ 9223372036854775807 ∧ r.tags.length ≤ 9223372036854775807 ∧ r.kids.length ≤ 9223372036854775807) :
    Gives Tryz.prog 142 #[vrule r (.slice Ab r.bytes.length cb) (.slice An r.names.length cn) (.slice At r.tags.length ct) (.slice Ak r.kids.length ck), .bool false, .bool false, .bool false, .bool false, .int .i64 kids] w (.bool (plainB r false false false false kids && (!r.little || r.kind == 1))) := by
  obtain ⟨l1, l2, l3, l4⟩ := hl
  unfold plainB
  obtain ⟨nm, kind, size, little, bytes, names, tags, kd⟩ := r
  unfold vrule
  dsimp only at *
  cases g_size : (size == 0)
  · skip
    go_enter Tryz.func142, Tryz.ntmps142
    go_wp2
    go_ret
    exact ⟨ret_bool (by simp [*]), Ext_alloc _ (Ext.refl w)⟩
  cases g_bytes : (bytes.length == 0)
  · have k_bytes : (((bytes.length : Nat) : Int) == 0) = false := by simpa using g_bytes
    go_enter Tryz.func142, Tryz.ntmps142
    go_wp2
    go_ret
    exact ⟨ret_bool (by simp [*]), Ext_alloc _ (Ext.refl w)⟩
  have k_bytes : (((bytes.length : Nat) : Int) == 0) = true := by simpa using g_bytes
  cases g_names : (names.length == 0)
  · have k_names : (((names.length : Nat) : Int) == 0) = false := by simpa using g_names
    go_enter Tryz.func142, Tryz.ntmps142
    go_wp2
    go_ret
    exact ⟨ret_bool (by simp [*]), Ext_alloc _ (Ext.refl w)⟩
  have k_names : (((names.length : Nat) : Int) == 0) = true := by simpa using g_names
  cases g_tags : (tags.length == 0)
  · have k_tags : (((tags.length : Nat) : Int) == 0) = false := by simpa using g_tags
    go_enter Tryz.func142, Tryz.ntmps142
    go_wp2
    go_ret
    exact ⟨ret_bool (by simp [*]), Ext_alloc _ (Ext.refl w)⟩
  have k_tags : (((tags.length : Nat) : Int) == 0) = true := by simpa using g_tags
  by_cases hk : kids < 0
  · have dk : decide (kids < 0) = true := by simpa using hk
    cases little
    · go_enter Tryz.func142, Tryz.ntmps142
      go_wp2
      go_ret
      exact ⟨ret_bool (by simp [*]), Ext_alloc _ (Ext.refl w)⟩
    · cases g_kind : (kind == 1)
      all_goals
        go_enter Tryz.func142, Tryz.ntmps142
        go_wp2
        go_ret
        exact ⟨ret_bool (by simp [*]), Ext_alloc _ (Ext.refl w)⟩
  · have dk : decide (kids < 0) = false := by simpa using hk
    by_cases hq : ((kd.length : Int) = kids)
    · have k_kids : ((kd.length : Int) == kids) = true := by simpa using hq
      have HQ := Lib.hid hq; clear hq
      cases little
      · go_enter Tryz.func142, Tryz.ntmps142
        go_wp2
        go_ret
        exact ⟨ret_bool (by have := HQ.out; simp [*]), Ext_alloc _ (Ext.refl w)⟩
      · cases g_kind : (kind == 1)
        all_goals
          go_enter Tryz.func142, Tryz.ntmps142
          go_wp2
          go_ret
          exact ⟨ret_bool (by have := HQ.out; simp [*]), Ext_alloc _ (Ext.refl w)⟩
    · have k_kids : ((kd.length : Int) == kids) = false := by simpa using hq
      go_enter Tryz.func142, Tryz.ntmps142
      go_wp2
      go_ret
      exact ⟨ret_bool (by simp [*]), Ext_alloc _ (Ext.refl w)⟩
set_option maxHeartbeats 2000000 in
theorem sShape0010_c (r : DRule) (Ab : Option Addr) (cb : Nat) (An : Option Addr) (cn : Nat) (At : Option Addr) (ct : Nat) (Ak : Option Addr) (ck : Nat) (kids : Int) (w : World) (hl : r.bytes.length ≤ 9223372036854775807 ∧ r.names.length ≤ 9223372036854775807 ∧ r.tags.length ≤ 9223372036854775807 ∧ r.kids.length ≤ 9223372036854775807) :
    Gives Tryz.prog 142 #[vrule r (.slice Ab r.bytes.length cb) (.slice An r.names.length cn) (.slice At r.tags.length ct) (.slice Ak r.kids.length ck), .bool false, .bool false, .bool true, .bool false, .int .i64 kids] w (.bool (plainB r false false true false kids && (!r.little || r.kind == 1))) := by
  obtain ⟨l1, l2, l3, l4⟩ := hl
  unfold plainB
  obtain ⟨nm, kind, size, little, bytes, names, tags, kd⟩ := r
  unfold vrule
  dsimp only at *
  cases g_size : (size == 0)
  · skip
    go_enter Tryz.func142, Tryz.ntmps142
    go_wp2
    go_ret
    exact ⟨ret_bool (by simp [*]), Ext_alloc _ (Ext.refl w)⟩
  cases g_bytes : (bytes.length == 0)
  · have k_bytes : (((bytes.length : Nat) : Int) == 0) = false := by simpa using g_bytes
    go_enter Tryz.func142, Tryz.ntmps142
    go_wp2
    go_ret
    exact ⟨ret_bool (by simp [*]), Ext_alloc _ (Ext.refl w)⟩
  have k_bytes : (((bytes.length : Nat) : Int) == 0) = true := by simpa using g_bytes
  cases g_tags : (tags.length == 0)
  · have k_tags : (((tags.length : Nat) : Int) == 0) = false := by simpa using g_tags
    go_enter Tryz.func142, Tryz.ntmps142
    go_wp2
    go_ret
    exact ⟨ret_bool (by simp [*]), Ext_alloc _ (Ext.refl w)⟩
  have k_tags : (((tags.length : Nat) : Int) == 0) = true := by simpa using g_tags
  by_cases hk : kids < 0
  · have dk : decide (kids < 0) = true := by simpa using hk
    cases little
    · go_enter Tryz.func142, Tryz.ntmps142
      go_wp2
      go_ret
      exact ⟨ret_bool (by simp [*]), Ext_alloc _ (Ext.refl w)⟩
    · cases g_kind : (kind == 1)
      all_goals
        go_enter Tryz.func142, Tryz.ntmps142
        go_wp2
        go_ret
        exact ⟨ret_bool (by simp [*]), Ext_alloc _ (Ext.refl w)⟩
  · have dk : decide (kids < 0) = false := by simpa using hk
    by_cases hq : ((kd.length : Int) = kids)
    · have k_kids : ((kd.length : Int) == kids) = true := by simpa using hq
      have HQ := Lib.hid hq; clear hq
      cases little
      · go_enter Tryz.func142, Tryz.ntmps142
        go_wp2
        go_ret
        exact ⟨ret_bool (by have := HQ.out; simp [*]), Ext_alloc _ (Ext.refl w)⟩
      · cases g_kind : (kind == 1)
        all_goals
          go_enter Tryz.func142, Tryz.ntmps142
          go_wp2
          go_ret
          exact ⟨ret_bool (by have := HQ.out; simp [*]), Ext_alloc _ (Ext.refl w)⟩
    · have k_kids : ((kd.length : Int) == kids) = false := by simpa using hq
      go_enter Tryz.func142, Tryz.ntmps142
      go_wp2
      go_ret
      exact ⟨ret_bool (by simp [*]), Ext_alloc _ (Ext.refl w)⟩
set_option maxHeartbeats 2000000 in
theorem sShape0001_c (r : DRule) (Ab : Option Addr) (cb : Nat) (An : Option Addr) (cn : Nat) (At : Option Addr) (ct : Nat) (Ak : Option Addr) (ck : Nat) (kids : Int) (w : World) (hl : r.bytes.length ≤ 9223372036854775807 ∧ r.names.length ≤ 9223372036854775807 ∧ r.tags.length ≤ 9223372036854775807 ∧ r.kids.length ≤ 9223372036854775807) :
    Gives Tryz.prog 142 #[vrule r (.slice Ab r.bytes.length cb) (.slice An r.names.length cn) (.slice At r.tags.length ct) (.slice Ak r.kids.length ck), .bool false, .bool false, .bool false, .bool true, .int .i64 kids] w (.bool (plainB r false false false true kids && (!r.little || r.kind == 1))) := by
  obtain ⟨l1, l2, l3, l4⟩ := hl
  unfold plainB
  obtain ⟨nm, kind, size, little, bytes, names, tags, kd⟩ := r
  unfold vrule
  dsimp only at *
  cases g_size : (size == 0)
  · skip
    go_enter Tryz.func142, Tryz.ntmps142
    go_wp2
    go_ret
    exact ⟨ret_bool (by simp [*]), Ext_alloc _ (Ext.refl w)⟩
  cases g_bytes : (bytes.length == 0)
  · have k_bytes : (((bytes.length : Nat) : Int) == 0) = false := by simpa using g_bytes
    go_enter Tryz.func142, Tryz.ntmps142
    go_wp2
    go_ret
    exact ⟨ret_bool (by simp [*]), Ext_alloc _ (Ext.refl w)⟩
  have k_bytes : (((bytes.length : Nat) : Int) == 0) = true := by simpa using g_bytes
  cases g_names : (names.length == 0)
  · have k_names : (((names.length : Nat) : Int) == 0) = false := by simpa using g_names
    go_enter Tryz.func142, Tryz.ntmps142
    go_wp2
    go_ret
    exact ⟨ret_bool (by simp [*]), Ext_alloc _ (Ext.refl w)⟩
  have k_names : (((names.length : Nat) : Int) == 0) = true := by simpa using g_names
  by_cases hk : kids < 0
  · have dk : decide (kids < 0) = true := by simpa using hk
    cases little
    · go_enter Tryz.func142, Tryz.ntmps142
      go_wp2
      go_ret
      exact ⟨ret_bool (by simp [*]), Ext_alloc _ (Ext.refl w)⟩
    · cases g_kind : (kind == 1)
      all_goals
        go_enter Tryz.func142, Tryz.ntmps142
        go_wp2
        go_ret
        exact ⟨ret_bool (by simp [*]), Ext_alloc _ (Ext.refl w)⟩
  · have dk : decide (kids < 0) = false := by simpa using hk
    by_cases hq : ((kd.length : Int) = kids)
    · have k_kids : ((kd.length : Int) == kids) = true := by simpa using hq
      have HQ := Lib.hid hq; clear hq
      cases little
      · go_enter Tryz.func142, Tryz.ntmps142
        go_wp2
        go_ret
        exact ⟨ret_bool (by have := HQ.out; simp [*]), Ext_alloc _ (Ext.refl w)⟩
      · cases g_kind : (kind == 1)
        all_goals
          go_enter Tryz.func142, Tryz.ntmps142
          go_wp2
          go_ret
          exact ⟨ret_bool (by have := HQ.out; simp [*]), Ext_alloc _ (Ext.refl w)⟩
    · have k_kids : ((kd.length : Int) == kids) = false := by simpa using hq
      go_enter Tryz.func142, Tryz.ntmps142
      go_wp2
      go_ret
      exact ⟨ret_bool (by simp [*]), Ext_alloc _ (Ext.refl w)⟩
end Go.Proofs.YtjckcbfpejcpcaaGreatDoor

/- Sequences and choices. -/
namespace Go.Proofs.YtjckcbfpejcpcaaGreatDoor
open Go.RowKit Go.Sort

theorem RdS.lens {w : World} {r : DRule} {Ab : Option Addr} {cb : Nat} {An : Option Addr} {cn : Nat} {At : Option Addr} {ct : Nat} {Ak : Option Addr} {ck : Nat} (h : RdS w r Ab cb An cn At ct Ak ck) :
    r.bytes.length ≤ 9223372036854775807 ∧ r.names.length ≤ 9223372036854775807 ∧ r.tags.length ≤ 9223372036854775807 ∧ r.kids.length ≤ 9223372036854775807 := ⟨h.b.len, h.n.len, h.t.len, h.k.len⟩
theorem Rd0.take {α : Type} {f : α → Value} {w : World} {A : Option Addr} {l : List α} {c : Nat} (h : Rd0 f w A l c) (n : Nat) (hn : n ≤ l.length) : Rd0 f w A (l.take n) c := by
  have hl : (l.take n).length = n := by simp; omega
  refine ⟨by have := h.cap; omega, by have := h.len; omega, fun hp => ?_⟩
  obtain ⟨b, off, h1, h2, h3⟩ := h.2.2 (by omega)
  refine ⟨b, off, h1, h2, fun w' e i hi => ?_⟩
  rw [h3 w' e i (by omega)]
  simp
theorem nameOk_at {l : List ByteArray} {k : Nat} (h : k < l.length) : nameOk l k = (isName l[k] && !hasNm (l.take k) l[k]) := by
  unfold nameOk; rw [List.getElem?_eq_getElem h]
theorem tagOk_at {lim : Int} {l : List Int} {k : Nat} (h : k < l.length) : tagOk lim l k = (between l[k] 0 lim && (k == 0 || decide (l.getD (k - 1) 0 < l[k]))) := by
  unfold tagOk; rw [List.getElem?_eq_getElem h]
/-- the names of a sequence, of the reference -/
def namesB (l : List ByteArray) : Bool := between l.length 1 8 && allN l.length (nameOk l)
set_option maxRecDepth 100000 in
set_option maxHeartbeats 2000000 in
theorem sNames_c (A : Option Addr) (l : List ByteArray) (c : Nat) (w : World) (h : Rd0 vstr w A l c) (hw : ∀ s ∈ l, s.size ≤ 9223372036854775807) :
    Gives Tryz.prog 143 #[.slice A l.length c] w (.bool (namesB l)) := by
  have hl := h.len
  have hcap := h.cap
  go_enter Tryz.func143, Tryz.ntmps143
  go_wp2
  go_loopw [3] (fun i wr => ∃ k : Nat, k ≤ l.length ∧ i = .int .i64 k ∧ Hid (∀ j, j < k → nameOk l j = true) ∧ Ext w wr) (fun i _ => l.length - (intOf i).toNat)
  case atStart => exact ⟨0, by omega, rfl, (fun j hj => by omega), Ext.refl _⟩
  case round =>
    obtain ⟨k, hk, rfl, ht, he⟩ := hrel
    by_cases hlt : k < l.length
    · obtain ⟨b, off, hA, hb, hc⟩ := h.at k hlt
      have HT := h.take k (by omega)
      have HN := Lib.hid (nameOk_at hlt)
      have NO : Hid (nameOk l k = false → namesB l = false) := fun hf => by unfold namesB; rw [allN_no hlt hf, Bool.and_false]
      have YES : Hid (nameOk l k = true → ∀ j, j < k + 1 → nameOk l j = true) := upTo ht.out
      have CN := Lib.hid (fun w => sIsName_c l[k] w (hw _ (List.getElem_mem hlt)))
      have hlk : (l.take k).length = k := by simp; omega
      have CC : Hid (∀ w' s, Ext w w' → Gives Tryz.prog 154 #[.slice A k c, .string s] w' (.bool (hasNm (l.take k) s))) := fun w' s e => by
        have := sContains_c A (l.take k) c s w' (HT.ext e)
        rwa [hlk] at this
      subst hA
      generalize l[k] = x at *
      generalize isName x = q1 at *
      have hc0 : (0 : Int) ≤ (k : Int) := by omega
      have hc1 : (k : Int) ≤ (c : Int) := by omega
      clear HT h hlk
      cases q1
      · have HR : Hid (nameOk l k = false) := by show _ = _; rw [HN.out]; rfl
        have HE := Lib.hid (NO.out HR.out)
        clear NO YES HN HR
        go_wp2_with fail
        refine wp_region_quiet_below (by kernel_rfl) (by kernel_rfl) ?_
        repeat (go_big_quiet_step ((go_at_call 118; exact Calls.regrown_of (CN.out _))))
        refine wpQuiet_nil ?_
        rintro w1 ⟨⟨nq, osq⟩, hq⟩
        have ew1 := ext_of_q hq
        clear hq nq osq
        go_wp2
        go_ret
        exact ⟨ret_bool HE.out.symm, he.trans ew1⟩
      · have CD := Lib.hid (fun w' e => CC.out w' x e)
        generalize hasNm (l.take k) x = q2 at *
        cases q2
        · have HR : Hid (nameOk l k = true) := by show _ = _; rw [HN.out]; rfl
          have HE := Lib.hid (YES.out HR.out)
          clear NO YES HN HR CC
          go_wp2_with fail
          refine wp_region_quiet_below (by kernel_rfl) (by kernel_rfl) ?_
          repeat (go_big_quiet_step ((first | (go_at_call 118; exact Calls.regrown_of (CN.out _)) | (go_at_call 154; exact Calls.regrown_of (CD.out _ (by first | assumption | exact Ext_regrown _ _ he))))))
          refine wpQuiet_nil ?_
          rintro w1 ⟨⟨nq, osq⟩, hq⟩
          have ew1 := ext_of_q hq
          clear hq nq osq
          go_wp2
          go_roundw
          case rel => exact ⟨k+1, by omega, by go_num, HE.out, he.trans ew1⟩
          case measure => simp [intOf]; omega
        · have HR : Hid (nameOk l k = false) := by show _ = _; rw [HN.out]; rfl
          have HE := Lib.hid (NO.out HR.out)
          clear NO YES HN HR CC
          go_wp2_with fail
          refine wp_region_quiet_below (by kernel_rfl) (by kernel_rfl) ?_
          repeat (go_big_quiet_step ((first | (go_at_call 118; exact Calls.regrown_of (CN.out _)) | (go_at_call 154; exact Calls.regrown_of (CD.out _ (by first | assumption | exact Ext_regrown _ _ he))))))
          refine wpQuiet_nil ?_
          rintro w1 ⟨⟨nq, osq⟩, hq⟩
          have ew1 := ext_of_q hq
          clear hq nq osq
          go_wp2
          go_ret
          exact ⟨ret_bool HE.out.symm, he.trans ew1⟩
    · have HE : Hid (namesB l = (decide ((1 : Int) ≤ (l.length : Int)) && decide ((l.length : Int) ≤ 8))) := by
        show _ = _; unfold namesB between; rw [allN_yes (fun j hj => ht.out j (by omega)), Bool.and_true]
      go_wp2_with (go_at_call 80; refine (l1In_c _ _ _ _).mono ?_; rintro _ w1 ⟨rfl, he1⟩)
      go_ret
      exact ⟨ret_bool HE.out.symm, he.trans he1⟩
set_option maxRecDepth 100000 in
set_option maxHeartbeats 4000000 in
theorem iSeq_c (r : DRule) (Ab : Option Addr) (cb : Nat) (An : Option Addr) (cn : Nat) (At : Option Addr) (ct : Nat) (Ak : Option Addr) (ck : Nat) (w : World) (h : RdS w r Ab cb An cn At ct Ak ck) (hw : WfR r) :
    Gives Tryz.prog 151 #[vrule r (.slice Ab r.bytes.length cb) (.slice An r.names.length cn) (.slice At r.tags.length ct) (.slice Ak r.kids.length ck)] w (.bool (seqOk r)) := by
  have eb := Ext_alloc (.cells #[.string r.nm, .int .i64 r.kind, .int .i64 r.size, .bool r.little, .slice Ab r.bytes.length cb, .slice An r.names.length cn, .slice At r.tags.length ct, .slice Ak r.kids.length ck] 97) (Ext.refl w)
  have B := fun w' (e : Ext (w.alloc (.cells #[.string r.nm, .int .i64 r.kind, .int .i64 r.size, .bool r.little, .slice Ab r.bytes.length cb, .slice An r.names.length cn, .slice At r.tags.length ct, .slice Ak r.kids.length ck] 97)) w') => boxed e
  have CP := Lib.hid (fun w => iPlain0010_c r Ab cb An cn At ct Ak ck (-1) w h.lens)
  obtain ⟨hl1, hl2, hl3, hl4⟩ := h.lens
  have hN := h.n
  have hcap := hN.cap
  have hwn := Lib.hid hw.names
  clear h hw
  unfold seqOk
  generalize plainB r false false true false (-1) = p at *
  unfold vrule at *
  cases p
  · go_enter Tryz.func151, Tryz.ntmps151
    go_wp2_with fail
    refine (CP.out _).mono ?_; rintro _ w1 ⟨rfl, he1⟩
    go_wp2
    go_ret
    exact ⟨ret_bool (by simp), eb.trans he1⟩
  by_cases hlen : r.kids.length = r.names.length
  · have CI := Lib.hid (fun w => iInRange_c (r.kids.length : Int) 1 8 w)
    have HB : Hid (between r.kids.length 1 8 = (decide ((1 : Int) ≤ (r.kids.length : Int)) && decide ((r.kids.length : Int) ≤ 8))) := rfl
    have g1 : ((r.kids.length : Int) != (r.names.length : Int)) = false := by simp [hlen]
    have g2 : (r.kids.length == r.names.length) = true := by simp [hlen]
    rw [← HB.out] at CI
    rw [g2]
    clear hlen g2 HB
    generalize between r.kids.length 1 8 = p2 at *
    cases p2
    · go_enter Tryz.func151, Tryz.ntmps151
      go_wp2_with fail
      refine (CP.out _).mono ?_; rintro _ w1 ⟨rfl, he1⟩
      go_wp2_with fail
      refine (CI.out _).mono ?_; rintro _ w2 ⟨rfl, he2⟩
      go_wp2
      go_ret
      exact ⟨ret_bool (by simp), eb.trans (he1.trans he2)⟩
    · go_enter Tryz.func151, Tryz.ntmps151
      go_wp2_with fail
      refine (CP.out _).mono ?_; rintro _ w1 ⟨rfl, he1⟩
      go_wp2_with fail
      refine (CI.out _).mono ?_; rintro _ w2 ⟨rfl, he2⟩
      have e2 := he1.trans he2
      clear he1 he2 g1 CP CI
      go_wp2
      go_loopw [27] (fun i wr => ∃ k : Nat, k ≤ r.names.length ∧ i = .int .i64 k ∧ Hid (∀ j, j < k → nameOk r.names j = true) ∧ Ext (w.alloc (.cells #[.string r.nm, .int .i64 r.kind, .int .i64 r.size, .bool r.little, .slice Ab r.bytes.length cb, .slice An r.names.length cn, .slice At r.tags.length ct, .slice Ak r.kids.length ck] 97)) wr) (fun i _ => r.names.length - (intOf i).toNat)
      case atStart => exact ⟨0, by omega, rfl, (fun j hj => by omega), e2⟩
      case round =>
        clear e2
        obtain ⟨k, hk, rfl, ht, he⟩ := hrel
        by_cases hlt : k < r.names.length
        · have HT := hN.take k (by omega)
          have HNm := Lib.hid (nameOk_at hlt)
          have NO : Hid (nameOk r.names k = false → allN r.names.length (nameOk r.names) = false) := fun hf => allN_no hlt hf
          have YES : Hid (nameOk r.names k = true → ∀ j, j < k + 1 → nameOk r.names j = true) := upTo ht.out
          have CN := Lib.hid (fun w => iIsName_c r.names[k] w (hwn.out _ (List.getElem_mem hlt)))
          have hlk : (r.names.take k).length = k := by simp; omega
          have CC : Hid (∀ w' s, Ext w w' → Gives Tryz.prog 157 #[.slice An k cn, .string s] w' (.bool (hasNm (r.names.take k) s))) := fun w' s e => by
            have := iContains_c An (r.names.take k) cn s w' (HT.ext e)
            rwa [hlk] at this
          obtain ⟨b, off, rfl, hb, hc⟩ := hN.at k hlt
          have hcw := fun w' (e : Ext _ w') => hc w' (eb.trans e)
          generalize r.names[k] = x at *
          generalize isName x = q1 at *
          have hc0 : (0 : Int) ≤ (k : Int) := by omega
          have hc1 : (k : Int) ≤ (cn : Int) := by omega
          clear HT hlk hc hN
          cases q1
          · have HR : Hid (nameOk r.names k = false) := by show _ = _; rw [HNm.out]; rfl
            have HE := Lib.hid (NO.out HR.out)
            clear NO YES HNm HR
            go_wp2_with fail
            refine (CN.out _).mono ?_; rintro _ w3 ⟨rfl, he3⟩
            go_wp2
            go_ret
            exact ⟨ret_bool (by rw [HE.out]; simp), eb.trans (he.trans he3)⟩
          · have CD := Lib.hid (fun w' e => CC.out w' x e)
            generalize hasNm (r.names.take k) x = q2 at *
            cases q2
            · have HR : Hid (nameOk r.names k = true) := by show _ = _; rw [HNm.out]; rfl
              have HE := Lib.hid (YES.out HR.out)
              clear NO YES HNm HR CC
              go_wp2_with fail
              refine (CN.out _).mono ?_; rintro _ w3 ⟨rfl, he3⟩
              have e3 := he.trans he3
              go_wp2_with fail
              refine (CD.out _ (eb.trans e3)).mono ?_; rintro _ w4 ⟨rfl, he4⟩
              go_wp2
              go_roundw
              case rel => exact ⟨k+1, by omega, by go_num, HE.out, e3.trans he4⟩
              case measure => simp [intOf]; omega
            · have HR : Hid (nameOk r.names k = false) := by show _ = _; rw [HNm.out]; rfl
              have HE := Lib.hid (NO.out HR.out)
              clear NO YES HNm HR CC
              go_wp2_with fail
              refine (CN.out _).mono ?_; rintro _ w3 ⟨rfl, he3⟩
              have e3 := he.trans he3
              go_wp2_with fail
              refine (CD.out _ (eb.trans e3)).mono ?_; rintro _ w4 ⟨rfl, he4⟩
              go_wp2
              go_ret
              exact ⟨ret_bool (by rw [HE.out]; simp), eb.trans (e3.trans he4)⟩
        · have HE : Hid (allN r.names.length (nameOk r.names) = true) := allN_yes (fun j hj => ht.out j (by omega))
          go_wp2
          go_ret
          exact ⟨ret_bool (by rw [HE.out]; simp), eb.trans he⟩
  · have g1 : ((r.kids.length : Int) != (r.names.length : Int)) = true := by simp; omega
    have g2 : (r.kids.length == r.names.length) = false := by simpa using hlen
    rw [g2]
    clear hlen g2
    go_enter Tryz.func151, Tryz.ntmps151
    go_wp2_with fail
    refine (CP.out _).mono ?_; rintro _ w1 ⟨rfl, he1⟩
    go_wp2
    go_ret
    exact ⟨ret_bool (by simp), eb.trans he1⟩
/-- the tags of a choice, of the reference -/
def tagsB (ds : List DRule) (r : DRule) : Bool := r.kids.length == r.tags.length + 1 && between r.tags.length 1 8 && allN r.tags.length (tagOk (limD ds (r.kids.getD 0 0)) r.tags)
theorem tagOk_zero {lim : Int} {l : List Int} {k : Nat} (h : k < l.length) (hz : k = 0) : tagOk lim l k = between l[k] 0 lim := by rw [tagOk_at h]; simp [hz]
theorem tagOk_succ {lim : Int} {l : List Int} {m : Nat} (h : m + 1 < l.length) : tagOk lim l (m + 1) = (between l[m + 1] 0 lim && !decide (l[m + 1] ≤ l[m])) := by
  rw [tagOk_at h]
  have : l.getD (m + 1 - 1) 0 = l[m] := by simp [List.getD_eq_getElem?_getD, List.getElem?_eq_getElem (show m < l.length by omega)]
  rw [this]
  by_cases h2 : l[m] < l[m + 1]
  · rw [decide_eq_true h2, decide_eq_false (show ¬ l[m + 1] ≤ l[m] by omega)]; simp
  · rw [decide_eq_false h2, decide_eq_true (show l[m + 1] ≤ l[m] by omega)]; simp
theorem wrap_back (m : Nat) (h : m ≤ 9223372036854775807) : IntKind.i64.wrap ((m : Int) + 1 - 1) = (m : Int) := by
  rw [show (m : Int) + 1 - 1 = (m : Int) by omega]; exact IntWalk.i64_in _ (by omega)
set_option maxRecDepth 100000 in
set_option maxHeartbeats 4000000 in
theorem sTags_c (A : Option Addr) (ds : List DRule) (c : Nat) (r : DRule) (Ab : Option Addr) (cb : Nat) (An : Option Addr) (cn : Nat) (At : Option Addr) (ct : Nat) (Ak : Option Addr) (ck : Nat) (w : World) (hd : RdD w A ds c) (h : RdS w r Ab cb An cn At ct Ak ck) (hs : ShortR r) :
    Gives Tryz.prog 144 #[vdesc (.slice A ds.length c), vrule r (.slice Ab r.bytes.length cb) (.slice An r.names.length cn) (.slice At r.tags.length ct) (.slice Ak r.kids.length ck)] w (.bool (tagsB ds r)) := by
  have eb := Ext_alloc (.cells #[.string r.nm, .int .i64 r.kind, .int .i64 r.size, .bool r.little, .slice Ab r.bytes.length cb, .slice An r.names.length cn, .slice At r.tags.length ct, .slice Ak r.kids.length ck] 97) (Ext_alloc (.cells #[.slice A ds.length c] 35) (Ext.refl w))
  have BX := fun w' (e : Ext ((w.alloc (.cells #[.slice A ds.length c] 35)).alloc (.cells #[.string r.nm, .int .i64 r.kind, .int .i64 r.size, .bool r.little, .slice Ab r.bytes.length cb, .slice An r.names.length cn, .slice At r.tags.length ct, .slice Ak r.kids.length ck] 97)) w') => boxed2 e
  have B0 := fun w' e => (BX w' e).1
  have B1 := fun w' e => (BX w' e).2.1
  clear BX
  obtain ⟨hl1, hl2, hl3, hl4⟩ := hs
  have hT := h.t; have hK := h.k
  clear h
  unfold vrule vdesc at *
  unfold tagsB
  by_cases hlen : r.kids.length = r.tags.length + 1
  · have g1 : ((r.kids.length : Int) != (r.tags.length : Int) + 1) = false := by simp; omega
    have g2 : (r.kids.length == r.tags.length + 1) = true := by simpa using hlen
    rw [g2]
    have CI := Lib.hid (fun w => l1In_c (r.tags.length : Int) 1 8 w)
    have HB : Hid (between r.tags.length 1 8 = (decide ((1 : Int) ≤ (r.tags.length : Int)) && decide ((r.tags.length : Int) ≤ 8))) := rfl
    rw [← HB.out] at CI
    have HLEN := Lib.hid hlen
    clear g2 HB hlen
    generalize between r.tags.length 1 8 = p2 at *
    cases p2
    · go_enter Tryz.func144, Tryz.ntmps144
      go_wp2_with fail
      refine (CI.out _).mono ?_; rintro _ w2 ⟨rfl, he2⟩
      go_wp2
      go_ret
      exact ⟨ret_bool (by simp), eb.trans he2⟩
    · have hk0 : 0 < r.kids.length := by have := HLEN.out; omega
      obtain ⟨bk, ok, rfl, hbk, hck⟩ := hK.at 0 hk0
      have HG : Hid (r.kids.getD 0 0 = r.kids[0]) := by show _ = _; simp [List.getD_eq_getElem?_getD, List.getElem?_eq_getElem hk0]
      rw [HG.out]
      rw [Nat.add_zero] at hck
      generalize r.kids[0] = kid at *
      have CL := Lib.hid (fun w h => sLimit_c A ds c kid w h)
      unfold vdesc at CL
      generalize limD ds kid = lim at *
      have hck' := fun w' (e : Ext _ w') => hck w' (eb.trans e)
      clear hck hK HG
      go_enter Tryz.func144, Tryz.ntmps144
      go_wp2_with fail
      refine (CI.out _).mono ?_; rintro _ w2 ⟨rfl, he2⟩
      clear CI g1
      go_wp2
      go_loopw [5] (fun i wr => ∃ k : Nat, k ≤ r.tags.length ∧ i = .int .i64 k ∧ Hid (∀ j, j < k → tagOk lim r.tags j = true) ∧ Ext _ wr) (fun i _ => r.tags.length - (intOf i).toNat)
      case atStart => exact ⟨0, by omega, rfl, (fun j hj => by omega), he2⟩
      case round =>
        clear he2
        obtain ⟨k, hk, rfl, ht, he⟩ := hrel
        by_cases hlt : k < r.tags.length
        · obtain ⟨b, off, rfl, hb, hc⟩ := hT.at k hlt
          have hc' := fun w' (e : Ext _ w') => hc w' (eb.trans e)
          have NO : Hid (tagOk lim r.tags k = false → allN r.tags.length (tagOk lim r.tags) = false) := fun hf => allN_no hlt hf
          have YES : Hid (tagOk lim r.tags k = true → ∀ j, j < k + 1 → tagOk lim r.tags j = true) := upTo ht.out
          have CB := Lib.hid (fun w => l1In_c r.tags[k] 0 lim w)
          have HB : Hid (between r.tags[k] 0 lim = (decide ((0 : Int) ≤ r.tags[k]) && decide (r.tags[k] ≤ lim))) := rfl
          rw [← HB.out] at CB
          clear HB
          rcases Nat.eq_zero_or_pos k with hz | hpos
          · have HN := Lib.hid (tagOk_zero (lim := lim) hlt hz)
            have d1 : decide ((0 : Int) < (k : Int)) = false := by simp; omega
            have d2 : decide (0 < k) = false := by simp; omega
            clear hz
            generalize r.tags[k] = x at *
            generalize between x 0 lim = q1 at *
            clear hc hT ht
            cases q1
            · have HE := Lib.hid (NO.out HN.out); clear NO YES HN
              go_wp2_with fail
              refine wp_region_quiet_below (by kernel_rfl) (by kernel_rfl) ?_
              repeat (go_big_quiet_step ((first | (go_at_call 114; exact Calls.regrown_of (CL.out _ (hd.ext (eb.trans (by first | assumption | exact Ext_regrown _ _ he))))) | (go_at_call 80; exact Calls.regrown_of (CB.out _)))))
              refine wpQuiet_nil ?_
              rintro w1 ⟨⟨nq, osq⟩, hq⟩
              have ew1 := ext_of_q hq
              clear hq nq osq
              go_wp2
              go_ret
              exact ⟨ret_bool (by rw [HE.out]; simp), eb.trans (he.trans ew1)⟩
            · have HE := Lib.hid (YES.out HN.out); clear NO YES HN
              go_wp2_with fail
              refine wp_region_quiet_below (by kernel_rfl) (by kernel_rfl) ?_
              repeat (go_big_quiet_step ((first | (go_at_call 114; exact Calls.regrown_of (CL.out _ (hd.ext (eb.trans (by first | assumption | exact Ext_regrown _ _ he))))) | (go_at_call 80; exact Calls.regrown_of (CB.out _)))))
              refine wpQuiet_nil ?_
              rintro w1 ⟨⟨nq, osq⟩, hq⟩
              have ew1 := ext_of_q hq
              clear hq nq osq
              go_wp2
              go_roundw
              case rel => exact ⟨k+1, by omega, by go_num, HE.out, he.trans ew1⟩
              case measure => simp [intOf]; omega
          · obtain ⟨m, rfl⟩ : ∃ m, k = m + 1 := ⟨k - 1, by omega⟩
            have HN := Lib.hid (tagOk_succ (lim := lim) hlt)
            obtain ⟨b', off', hh, _, hcm⟩ := hT.at m (by omega)
            obtain ⟨rfl, rfl⟩ : b = b' ∧ off = off' := by injection hh with hh; injection hh with h1 h2; exact ⟨h1, h2⟩
            have hcm' := fun w' (e : Ext _ w') => hcm w' (eb.trans e)
            have hwm := wrap_back m (by omega)
            generalize r.tags[m + 1] = x at *
            generalize r.tags[m] = y at *
            generalize between x 0 lim = q1 at *
            clear hc hT ht hcm hh
            cases q1
            · have HE := Lib.hid (NO.out (HN.out.trans (by simp))); clear NO YES HN
              go_wp2_with fail
              refine wp_region_quiet_below (by kernel_rfl) (by kernel_rfl) ?_
              repeat (go_big_quiet_step ((first | (go_at_call 114; exact Calls.regrown_of (CL.out _ (hd.ext (eb.trans (by first | assumption | exact Ext_regrown _ _ he))))) | (go_at_call 80; exact Calls.regrown_of (CB.out _)))))
              refine wpQuiet_nil ?_
              rintro w1 ⟨⟨nq, osq⟩, hq⟩
              have ew1 := ext_of_q hq
              clear hq nq osq
              go_wp2
              go_ret
              exact ⟨ret_bool (by rw [HE.out]; simp), eb.trans (he.trans ew1)⟩
            · cases hq : decide (x ≤ y)
              · have HE := Lib.hid (YES.out (HN.out.trans (by rw [hq]; simp))); clear NO YES HN
                go_wp2_with fail
                refine wp_region_quiet_below (by kernel_rfl) (by kernel_rfl) ?_
                repeat (go_big_quiet_step ((first | (go_at_call 114; exact Calls.regrown_of (CL.out _ (hd.ext (eb.trans (by first | assumption | exact Ext_regrown _ _ he))))) | (go_at_call 80; exact Calls.regrown_of (CB.out _)))))
                refine wpQuiet_nil ?_
                rintro w1 ⟨⟨nq, osq⟩, hq⟩
                have ew1 := ext_of_q hq
                clear hq nq osq
                go_wp2
                go_roundw
                case rel => exact ⟨m+2, by omega, by go_num, HE.out, he.trans ew1⟩
                case measure => simp [intOf]; omega
              · have HE := Lib.hid (NO.out (HN.out.trans (by rw [hq]; simp))); clear NO YES HN
                go_wp2_with fail
                refine wp_region_quiet_below (by kernel_rfl) (by kernel_rfl) ?_
                repeat (go_big_quiet_step ((first | (go_at_call 114; exact Calls.regrown_of (CL.out _ (hd.ext (eb.trans (by first | assumption | exact Ext_regrown _ _ he))))) | (go_at_call 80; exact Calls.regrown_of (CB.out _)))))
                refine wpQuiet_nil ?_
                rintro w1 ⟨⟨nq, osq⟩, hq⟩
                have ew1 := ext_of_q hq
                clear hq nq osq
                go_wp2
                go_ret
                exact ⟨ret_bool (by rw [HE.out]; simp), eb.trans (he.trans ew1)⟩
        · have HE : Hid (allN r.tags.length (tagOk lim r.tags) = true) := allN_yes (fun j hj => ht.out j (by omega))
          go_wp2
          go_ret
          exact ⟨ret_bool (by rw [HE.out]; simp), eb.trans he⟩
  · have g1 : ((r.kids.length : Int) != (r.tags.length : Int) + 1) = true := by simp; omega
    have g2 : (r.kids.length == r.tags.length + 1) = false := by simpa using hlen
    rw [g2]
    clear hlen g2
    go_enter Tryz.func144, Tryz.ntmps144
    go_wp2
    go_ret
    exact ⟨ret_bool (by simp), eb⟩
theorem plainB_kids {r : DRule} {a b c d : Bool} {k : Nat} (h : plainB r a b c d (k : Int) = true) : r.kids.length = k := by
  unfold plainB at h
  simp only [Bool.and_eq_true, Bool.or_eq_true, decide_eq_true_eq] at h
  omega
theorem lim_pos {lim : Int} (hl : lim = -1 ∨ lim = 255 ∨ lim = 65535 ∨ lim = 16777215 ∨ lim = 4294967295) {l : List Int} (h : 0 < l.length) (ht : ∀ j, j < l.length → tagOk lim l j = true) : decide (0 < lim) = true := by
  have h0 := ht 0 h
  rw [tagOk_zero h rfl] at h0
  unfold between at h0
  simp only [Bool.and_eq_true, decide_eq_true_eq] at h0
  simp; omega
set_option maxRecDepth 100000 in
set_option maxHeartbeats 4000000 in
theorem iChoice_c (A : Option Addr) (ds : List DRule) (c : Nat) (r : DRule) (Ab : Option Addr) (cb : Nat) (An : Option Addr) (cn : Nat) (At : Option Addr) (ct : Nat) (Ak : Option Addr) (ck : Nat) (w : World) (hd : RdD w A ds c) (h : RdS w r Ab cb An cn At ct Ak ck) (hs : ShortR r) :
    Gives Tryz.prog 152 #[vdesc (.slice A ds.length c), vrule r (.slice Ab r.bytes.length cb) (.slice An r.names.length cn) (.slice At r.tags.length ct) (.slice Ak r.kids.length ck)] w (.bool (choOk ds r)) := by
  have eb := Ext_alloc (.cells #[.string r.nm, .int .i64 r.kind, .int .i64 r.size, .bool r.little, .slice Ab r.bytes.length cb, .slice An r.names.length cn, .slice At r.tags.length ct, .slice Ak r.kids.length ck] 97) (Ext_alloc (.cells #[.slice A ds.length c] 35) (Ext.refl w))
  have BX := fun w' (e : Ext ((w.alloc (.cells #[.slice A ds.length c] 35)).alloc (.cells #[.string r.nm, .int .i64 r.kind, .int .i64 r.size, .bool r.little, .slice Ab r.bytes.length cb, .slice An r.names.length cn, .slice At r.tags.length ct, .slice Ak r.kids.length ck] 97)) w') => boxed2 e
  have B0 := fun w' e => (BX w' e).1
  have B1 := fun w' e => (BX w' e).2.1
  clear BX
  have CP := Lib.hid (fun w => iPlain0001_c r Ab cb An cn At ct Ak ck ((r.tags.length : Int) + 1) w h.lens)
  obtain ⟨hl1, hl2, hl3, hl4⟩ := hs
  have hT := h.t; have hK := h.k
  clear h
  have HK : Hid (plainB r false false false true ((r.tags.length : Int) + 1) = true → r.kids.length = r.tags.length + 1) := fun hp => plainB_kids (k := r.tags.length + 1) (by rw [Int.natCast_add]; exact hp)
  unfold choOk
  generalize plainB r false false false true ((r.tags.length : Int) + 1) = p at *
  unfold vrule vdesc at *
  cases p
  · go_enter Tryz.func152, Tryz.ntmps152
    go_wp2_with fail
    refine (CP.out _).mono ?_; rintro _ w1 ⟨rfl, he1⟩
    go_wp2
    go_ret
    exact ⟨ret_bool (by simp), eb.trans he1⟩
  have hlen := HK.out rfl
  have CI := Lib.hid (fun w => iInRange_c (r.tags.length : Int) 1 8 w)
  have HB : Hid (between r.tags.length 1 8 = (decide ((1 : Int) ≤ (r.tags.length : Int)) && decide ((r.tags.length : Int) ≤ 8))) := rfl
  rw [← HB.out] at CI
  have HP : Hid (between r.tags.length 1 8 = true → 0 < r.tags.length) := by intro hq; unfold between at hq; simp only [Bool.and_eq_true, decide_eq_true_eq] at hq; omega
  have HLEN := Lib.hid hlen
  clear HB hlen HK
  generalize between r.tags.length 1 8 = p2 at *
  cases p2
  · go_enter Tryz.func152, Tryz.ntmps152
    go_wp2_with fail
    refine (CP.out _).mono ?_; rintro _ w1 ⟨rfl, he1⟩
    go_wp2_with fail
    refine (CI.out _).mono ?_; rintro _ w2 ⟨rfl, he2⟩
    go_wp2
    go_ret
    exact ⟨ret_bool (by simp), eb.trans (he1.trans he2)⟩
  · have hpos := HP.out rfl
    have hk0 : 0 < r.kids.length := by have := HLEN.out; omega
    obtain ⟨bk, ok, rfl, hbk, hck⟩ := hK.at 0 hk0
    have HG : Hid (r.kids.getD 0 0 = r.kids[0]) := by show _ = _; simp [List.getD_eq_getElem?_getD, List.getElem?_eq_getElem hk0]
    rw [HG.out]
    rw [Nat.add_zero] at hck
    generalize r.kids[0] = kid at *
    have CL := Lib.hid (fun w h => iLimit_c A ds c kid w h)
    have HLC := Lib.hid (limD_cases ds kid)
    unfold vdesc at CL
    generalize limD ds kid = lim at *
    have hck' := fun w' (e : Ext _ w') => hck w' (eb.trans e)
    clear hck hK HG
    go_enter Tryz.func152, Tryz.ntmps152
    go_wp2_with fail
    refine (CP.out _).mono ?_; rintro _ w1 ⟨rfl, he1⟩
    go_wp2_with fail
    refine (CI.out _).mono ?_; rintro _ w2 ⟨rfl, he2⟩
    have e2 := he1.trans he2
    clear CI CP he1 he2
    go_wp2_with fail
    refine wp_region_quiet_below (by kernel_rfl) (by kernel_rfl) ?_
    repeat (go_big_quiet_step ((go_at_call 127; exact Calls.regrown_of (CL.out _ (hd.ext (eb.trans (by first | assumption | exact Ext_regrown _ _ e2)))))))
    refine wpQuiet_nil ?_
    rintro w3 ⟨⟨nq, osq⟩, hq⟩
    have ew3 := ext_of_q hq
    clear hq nq osq
    have e3 := e2.trans ew3
    clear e2 ew3 CL
    go_wp2
    go_loopw [31] (fun i wr => ∃ k : Nat, k ≤ r.tags.length ∧ i = .int .i64 k ∧ Hid (∀ j, j < k → tagOk lim r.tags j = true) ∧ Ext _ wr) (fun i _ => r.tags.length - (intOf i).toNat)
    case atStart => exact ⟨0, by omega, rfl, (fun j hj => by omega), e3⟩
    case round =>
      clear e3
      obtain ⟨k, hk, rfl, ht, he⟩ := hrel
      by_cases hlt : k < r.tags.length
      · obtain ⟨b, off, rfl, hb, hc⟩ := hT.at k hlt
        have hc' := fun w' (e : Ext _ w') => hc w' (eb.trans e)
        have NO : Hid (tagOk lim r.tags k = false → allN r.tags.length (tagOk lim r.tags) = false) := fun hf => allN_no hlt hf
        have YES : Hid (tagOk lim r.tags k = true → ∀ j, j < k + 1 → tagOk lim r.tags j = true) := upTo ht.out
        have CB := Lib.hid (fun w => iInRange_c r.tags[k] 0 lim w)
        have HB : Hid (between r.tags[k] 0 lim = (decide ((0 : Int) ≤ r.tags[k]) && decide (r.tags[k] ≤ lim))) := rfl
        rw [← HB.out] at CB
        clear HB
        rcases Nat.eq_zero_or_pos k with hz | hpos'
        · have HN := Lib.hid (tagOk_zero (lim := lim) hlt hz)
          have d1 : decide ((0 : Int) < (k : Int)) = false := by simp; omega
          have d2 : decide (0 < k) = false := by simp; omega
          clear hz
          generalize r.tags[k] = x at *
          generalize between x 0 lim = q1 at *
          clear hc hT ht
          cases q1
          · have HE := Lib.hid (NO.out HN.out); clear NO YES HN
            go_wp2_with fail
            refine (CB.out _).mono ?_; rintro _ w4 ⟨rfl, he4⟩
            go_wp2
            go_ret
            exact ⟨ret_bool (by rw [HE.out]; simp), eb.trans (he.trans he4)⟩
          · have HE := Lib.hid (YES.out HN.out); clear NO YES HN
            go_wp2_with fail
            refine (CB.out _).mono ?_; rintro _ w4 ⟨rfl, he4⟩
            go_wp2
            go_roundw
            case rel => exact ⟨k+1, by omega, by go_num, HE.out, he.trans he4⟩
            case measure => simp [intOf]; omega
        · obtain ⟨m, rfl⟩ : ∃ m, k = m + 1 := ⟨k - 1, by omega⟩
          have HN := Lib.hid (tagOk_succ (lim := lim) hlt)
          obtain ⟨b', off', hh, _, hcm⟩ := hT.at m (by omega)
          obtain ⟨rfl, rfl⟩ : b = b' ∧ off = off' := by injection hh with hh; injection hh with h1 h2; exact ⟨h1, h2⟩
          have hcm' := fun w' (e : Ext _ w') => hcm w' (eb.trans e)
          have hwm := wrap_back m (by omega)
          generalize r.tags[m + 1] = x at *
          generalize r.tags[m] = y at *
          generalize between x 0 lim = q1 at *
          clear hc hT ht hcm hh
          cases q1
          · have HE := Lib.hid (NO.out (HN.out.trans (by simp))); clear NO YES HN
            go_wp2_with fail
            refine (CB.out _).mono ?_; rintro _ w4 ⟨rfl, he4⟩
            go_wp2
            go_ret
            exact ⟨ret_bool (by rw [HE.out]; simp), eb.trans (he.trans he4)⟩
          · cases hq : decide (x ≤ y)
            · have HE := Lib.hid (YES.out (HN.out.trans (by rw [hq]; simp))); clear NO YES HN
              go_wp2_with fail
              refine (CB.out _).mono ?_; rintro _ w4 ⟨rfl, he4⟩
              have e4 := he.trans he4
              go_wp2
              go_roundw
              case rel => exact ⟨m+2, by omega, by go_num, HE.out, e4⟩
              case measure => simp [intOf]; omega
            · have HE := Lib.hid (NO.out (HN.out.trans (by rw [hq]; simp))); clear NO YES HN
              go_wp2_with fail
              refine (CB.out _).mono ?_; rintro _ w4 ⟨rfl, he4⟩
              have e4 := he.trans he4
              go_wp2
              go_ret
              exact ⟨ret_bool (by rw [HE.out]; simp), eb.trans e4⟩
      · have HE : Hid (allN r.tags.length (tagOk lim r.tags) = true) := allN_yes (fun j hj => ht.out j (by omega))
        have HL0 := Lib.hid (lim_pos HLC.out hpos (fun j hj => ht.out j (by omega)))
        have hl0 := HL0.out
        go_wp2
        go_ret
        exact ⟨ret_bool (by rw [HE.out]; simp), eb.trans he⟩
end Go.Proofs.YtjckcbfpejcpcaaGreatDoor
