/- CopyDescription of the program and of the reference: the walks. -/
import Derived.Test.YtalnekcmfagjoaaCopyD
import Derived.Test.YtalnekcmfagjoaaWrote
namespace Go.Proofs.Ytalnekcmfagjoaa
open Go.RowKit Go.Sort

section
variable {P : Program} {ops : Array Oper} {o : Oper} {a : Act} {Q : Exit → Act → World → Prop} {K : Act → World → Prop} {E : Prop}
/-- append, elements of any size, as one step of a region that draws -/
theorem step_app8 (hgd : o.guard = none) (s x : Operand) (t : TypeId) (ho : o.op = .call { callee := .builtin .append, args := #[s, x], argTypes := #[t, t] })
    {e : TypeId} {size bytes : Nat} {z : Value} (hE : Elem P t e size bytes z) (w0 w : World) (v : Value) (n : Nat) (xs : List Value) (hs : a.eval s = v) (hown : Own e size w0 w v n xs) (he : w0.heap.size ≤ w.heap.size)
    (ad : Addr) (m c : Nat) (news : List Value) (hx : a.eval x = .slice (some ad) m c) (hl : news.length = m * size) (hA : ∀ j u, news[j]? = some u → w.cell? (ad.add j) = some u) (h1 : ∀ u ∈ news, u.oneCell' = true)
    (hm : n + m ≤ maxLen) (hb : (n + m) * bytes ≤ 140737488355328)
    (h : ∀ v' w', Own e size w0 w' v' (n + m) (xs ++ news) → w.grownBy w' v.ownBlock → (v'.ownBlock = v.ownBlock ∨ v'.ownBlock = some w.heap.size) → K (a.put o.dst v') w') :
    if Region.wanted o (yielded ops a.tmps) = true then Oper.wp P o a w K Q else E := by
  have hw : Region.wanted o (yielded ops a.tmps) = true := by simp [Region.wanted, hgd]
  rw [if_pos hw]
  obtain ⟨i0, hi0, hz0, hz1, hz2⟩ := info_parts hE.hi
  obtain ⟨v', w', hr, h2, h3, h4, h5⟩ := run_append_own_at (P := P) w w0.heap.size t o.type e i0 z size bytes hE.ht hi0 hz0 hz1 hz2 hE.hz hE.hs v n xs hown ad m c news hl hA h1 hm hb he
  unfold Oper.wp execOp
  simp only [ho, resolve, invoke, builtin, Sem.run_bind, Sem.run_pure, Result.andThen_ok, List.map_toArray, List.map_cons, List.map_nil, hs, hx, hr]
  exact h v' w' h2 h3 h5
end
theorem vals_cells_one (p : RV) {w0 w : World} (h : RuleOwn w0 w p) (hs : ShortR p.r) : ∀ u ∈ p.cells, u.oneCell' = true := by
  obtain ⟨Ab, cb, An, cn, At, ct, Ak, ck, h1, h2, h3, h4, _⟩ := h.rd hs
  exact RV.cells_one p (by rw [h1]; rfl) (by rw [h2]; rfl) (by rw [h3]; rfl) (by rw [h4]; rfl)
theorem OwnD.snoc {W0 wr w2 w4 : World} {v v' : Value} {ps : List RV} {p : RV} (h : OwnD W0 wr v ps) (e2 : Ext wr w2) (hro : RuleOwn wr w2 p) (hfr : Far p.vals) (hb : W0.heap.size ≤ wr.heap.size) {cs : Array Value} {T : TypeId}
    (ho4 : Own 70 8 W0 w4 v' (ps.length + 1) (ps.flatMap RV.cells ++ p.cells)) (hg4 : (w2.alloc (.cells cs T)).grownBy w4 v.ownBlock) (hv : v'.ownBlock = v.ownBlock ∨ v'.ownBlock = some (w2.alloc (.cells cs T)).heap.size) : OwnD W0 w4 v' (ps ++ [p]) := by
  have ex := Ext_alloc (.cells cs T) (Ext.refl w2)
  have hsz : (w2.alloc (.cells cs T)).heap.size = w2.heap.size + 1 := by simp
  have hbl := h.block
  have hfar := h.far
  unfold Far at hfar
  rw [List.pairwise_cons] at hfar
  have hs2 := e2.size
  refine ⟨?_, fun q hq => ?_, ?_⟩
  · rw [List.length_append, List.flatMap_append, List.flatMap_cons, List.flatMap_nil, List.append_nil]; exact ho4
  · rcases List.mem_append.1 hq with hq | hq
    · refine (((h.each q hq).ext e2).ext ex).keep hg4 (fun u hu g hg he => ?_)
      exact hfar.1 u (List.mem_flatMap.2 ⟨q, hq, hu⟩) g he hg
    · obtain rfl := List.mem_singleton.1 hq
      refine ((hro.ext ex).keep hg4 (fun u hu g hg he => ?_)).down hb
      have h1 := (hro.block u hu g hg).1
      have h2 := (hbl v (List.mem_cons_self ..) g he).2
      omega
  · rw [List.flatMap_append, List.flatMap_cons, List.flatMap_nil, List.append_nil]
    have hold : ∀ u ∈ ps.flatMap RV.vals, ∀ g, u.ownBlock = some g → g < wr.heap.size := fun u hu g hg => (hbl u (List.mem_cons_of_mem _ hu) g hg).2
    have hnew : ∀ u ∈ p.vals, ∀ g, u.ownBlock = some g → wr.heap.size ≤ g ∧ g < w2.heap.size := fun u hu g hg => hro.block u hu g hg
    refine Far.cons (Far.append hfar.2 hfr (fun u hu x hx g h1 h2 => by have := hold u hu g h1; have := (hnew x hx g h2).1; omega)) (fun x hx g h1 h2 => ?_)
    rcases hv with hv | hv
    · rw [hv] at h1
      rcases List.mem_append.1 hx with hx | hx
      · exact hfar.1 x hx g h1 h2
      · have := (hbl v (List.mem_cons_self ..) g h1).2; have := (hnew x hx g h2).1; omega
    · rw [hv, hsz] at h1
      injection h1 with h1
      rcases List.mem_append.1 hx with hx | hx
      · have := hold x hx g h2; omega
      · have := (hnew x hx g h2).2; omega
theorem size_drew (w : World) : w.drew.heap.size = w.heap.size := rfl
set_option maxRecDepth 100000 in
set_option maxHeartbeats 8000000 in
theorem sCopyD_c (A : Option Addr) (ds : List DRule) (c : Nat) (w : World) (h : RdD w A ds c) (hz : szD ds ≤ 1048576) :
    Calls Try.prog 31 #[vdesc (.slice A ds.length c)] w fun e w' => ∃ v ps, e = .returned (vdesc v) ∧ rulesOf ps = ds ∧ OwnD w w' v ps ∧ Ext w w' := by
  have hn : ds.length ≤ 1048576 := by unfold szD at hz; omega
  have HZ : Hid (∀ k (hk : k < ds.length), szRl ds[k] ≤ 1048576) := fun k hk => szD_mem hz (List.getElem_mem hk)
  obtain ⟨W0, HW0, HP, HR, HO, e0, hsA⟩ := boxes3' w #[.slice A ds.length c] #[.slice none 0 0] #[.slice none 0 0] 28 28 28
  have HSA := Lib.hid hsA; clear hsA
  have HP0 := Lib.hid HP; have HR0 := Lib.hid HR; have HO0 := Lib.hid HO; clear HP HR HO
  have OD0 : Hid (OwnD W0 W0 (.slice none 0 0) []) := ⟨⟨by simp, .inl ⟨rfl, rfl⟩⟩, fun p hp => by simp at hp, Far.one _⟩
  have HH := Lib.hid h; clear h
  unfold vdesc
  go_enter Try.func31, Try.ntmps31
  go_wp2
  rw [← HW0.out]
  go_loopw [4] (fun ix wr => ∃ (k : Nat) (ps : List RV) (v : Value), k ≤ ds.length ∧ ix = .int .i64 k ∧ ps.length ≤ k ∧ k ≤ ps.length ∧ Hid (rulesOf ps = ds.take k) ∧ Hid (OwnD W0 wr v ps) ∧ Hid (Box wr w.heap.size #[.slice A ds.length c] 28) ∧ Hid (Box wr (w.heap.size + 1) #[.slice none 0 0] 28) ∧ Hid (Box wr (w.heap.size + 1 + 1) #[v] 28) ∧ Ext w wr ∧ W0.heap.size ≤ wr.heap.size) (fun ix _ => ds.length - (intOf ix).toNat)
  case atStart => exact ⟨0, [], _, by omega, rfl, by simp, by simp, by simp [Hid, rulesOf], OD0, HP0, HR0, HO0, e0, Nat.le_refl _⟩
  case round =>
    clear OD0 HP0 HR0 HO0 e0 HW0
    obtain ⟨k, ps, v, hk, rfl, hl1, hl2, hps, hod, hbp, hbr, hbo, he, hsz⟩ := hrel
    have c0 : _ = some (Value.slice A ds.length c) := hbp.out.cell 0
    by_cases hlt : k < ds.length
    · obtain ⟨b, off, Ab, cb, An, cn, At, ct, Ak, ck, hA, hb, hs, hr⟩ := HH.out.at k hlt
      subst hA
      have hzk := HZ.out k hlt
      have HT : Hid (ds.take (k+1) = ds.take k ++ [ds[k]]) := List.take_succ_eq_append_getElem hlt
      generalize ds[k] = r at *
      have C := Lib.hid (fun w h => sCopyR_c r Ab cb An cn At ct Ak ck w h hzk)
      obtain ⟨k0, k1, k2, k3, k4, k5, k6, k7⟩ := hr
      unfold vrule at C
      have cv : _ = some v := hbo.out.cell 0
      have hd := Ext_drew he
      have HS := Lib.hid hs; have hzk := Lib.hid hzk
      have hbod := Lib.hid (hbo.out.ext (Ext_drew (Ext.refl wr)))
      have hodd := Lib.hid (hod.out.ext (Ext_drew (Ext.refl wr)))
      clear hs
      have b1 : (0 : Int) ≤ (k : Int) := by omega
      have b2 : (k : Int) < (ds.length : Int) := by omega
      go_wp2_with fail
      go_region_law? (first
        | (go_simp; go_at_call 62; refine (C.out _ (HS.out.ext hd)).mono ?_; rintro _ w2 ⟨vb, vn, vt, vk, rfl, hro, hfr, he2⟩; have hro := Lib.hid hro; have hfr := Lib.hid hfr; have hbo3 := Lib.hid ((hbod.out.ext he2).ext (Ext_alloc (.cells #[.string r.nm, .int .i64 r.kind, .int .i64 r.size, .bool r.little, vb, vn, vt, vk] 70) (Ext.refl w2))); have c2 : _ = some v := (hbod.out.ext he2).cell 0; have c3 : _ = some v := hbo3.out.cell 0; have hsz2 : Hid (W0.heap.size ≤ (w2.alloc (.cells #[.string r.nm, .int .i64 r.kind, .int .i64 r.size, .bool r.little, vb, vn, vt, vk] 70)).heap.size) := (by have h1 := he2.size; rw [size_drew] at h1; show _ ≤ _; rw [World.size_alloc]; omega); have hone := Lib.hid (vals_cells_one _ hro.out (szRl_short hzk.out).1); have hNv : Hid (v.ownBlock ≠ some (w.heap.size + 1 + 1)) := (fun hh => by have := (hod.out.block v (List.mem_cons_self ..) _ hh).1; have := HSA.out; omega))
        | (refine step_app8 rfl (.tmp 14) (.tmp 21) _ rfl E_rule W0 (w2.alloc (.cells #[.string r.nm, .int .i64 r.kind, .int .i64 r.size, .bool r.little, vb, vn, vt, vk] 70)) v ps.length (ps.flatMap RV.cells) rfl (Own.ext (Own.ext hodd.out.row he2) (Ext_alloc _ (Ext.refl _))) hsz2.out ⟨w2.heap.size, 0, none⟩ 1 1 (RV.cells ⟨r, vb, vn, vt, vk⟩) rfl rfl (fun j u hu => (World.cell?_alloc_at' w2 (RV.cells ⟨r, vb, vn, vt, vk⟩) 70 j).trans hu) hone.out (by simp [maxLen]; omega) (by omega) ?_; intro v4 w4 ho4 hg4 hv4; have hbo4 := Lib.hid (Box.moved (hbo3.out) hg4 hNv.out); have c4 := hbo4.out.cell 0; have f4 := hbo4.out.free 0; have HO4 := Lib.hid (OwnD.snoc hodd.out he2 hro.out hfr.out hsz ho4 hg4 hv4); have HG4 := Lib.hid hg4; clear ho4 hg4 hv4; obtain ⟨A4, q4, hA4⟩ := HO4.out.shape; replace hA4 : v4 = .slice A4 (ps.length + 1) q4 := (by rw [hA4, List.length_append]; rfl); subst hA4))
      all_goals
        have hW := HSA.out
        have x3 := Ext_alloc (.cells #[.string r.nm, .int .i64 r.kind, .int .i64 r.size, .bool r.little, vb, vn, vt, vk] 70) (Ext.refl w2)
        have bV : ∀ g, v.ownBlock = some g → w.heap.size + 3 ≤ g := fun g hg => by have := (hod.out.block v (List.mem_cons_self ..) g hg).1; omega
        have e4 := ((hd.trans he2).trans x3).grown HG4.out (fun g hg => by have := bV g hg; omega)
        have P5 : Hid (Box (w4.setCell ⟨w.heap.size + 1 + 1, 0, none⟩ (.slice A4 (ps.length + 1) q4)) w.heap.size #[.slice (some ⟨b, off, none⟩) ds.length c] 28) := (((hbp.out.ext ((Ext_drew (Ext.refl wr)).trans he2)).ext x3).moved HG4.out (fun hh => by have := bV _ hh; omega)).other (by omega) 0 _
        have R5 : Hid (Box (w4.setCell ⟨w.heap.size + 1 + 1, 0, none⟩ (.slice A4 (ps.length + 1) q4)) (w.heap.size + 1) #[.slice none 0 0] 28) := (((hbr.out.ext ((Ext_drew (Ext.refl wr)).trans he2)).ext x3).moved HG4.out (fun hh => by have := bV _ hh; omega)).other (by omega) 0 _
        have O5 : Hid (Box (w4.setCell ⟨w.heap.size + 1 + 1, 0, none⟩ (.slice A4 (ps.length + 1) q4)) (w.heap.size + 1 + 1) #[.slice A4 (ps.length + 1) q4] 28) := hbo4.out.set 0 (.slice A4 (ps.length + 1) q4)
        have D5 : Hid (OwnD W0 (w4.setCell ⟨w.heap.size + 1 + 1, 0, none⟩ (.slice A4 (ps.length + 1) q4)) (.slice A4 (ps.length + 1) q4) (ps ++ [⟨r, vb, vn, vt, vk⟩])) := HO4.out.keep (grown_set w4 ⟨w.heap.size + 1 + 1, 0, none⟩ _) (fun u hu g hg hh => by have h1 := (HO4.out.block u hu g hg).1; injection hh with hh; simp at hh; omega)
        have E5 : Hid (Ext w (w4.setCell ⟨w.heap.size + 1 + 1, 0, none⟩ (.slice A4 (ps.length + 1) q4))) := e4.setCell (p := ⟨w.heap.size + 1 + 1, 0, none⟩) (by show w.heap.size ≤ w.heap.size + 1 + 1; omega) _
        have S5 : Hid (W0.heap.size ≤ (w4.setCell ⟨w.heap.size + 1 + 1, 0, none⟩ (.slice A4 (ps.length + 1) q4)).heap.size) := by
          have h1 := HG4.out.size; have h2 := hsz2.out
          show _ ≤ _; simp only [World.size_setCell]; omega
        have N5 : Hid (rulesOf (ps ++ [⟨r, vb, vn, vt, vk⟩]) = ds.take (k + 1)) := by show _ = _; rw [rulesOf_append, hps.out, HT.out]; rfl
        clear hW x3 bV e4
        go_wp2
        go_roundw
        case rel => exact ⟨k + 1, ps ++ [⟨r, vb, vn, vt, vk⟩], _, by omega, by go_num, by simp; omega, by simp; omega, N5, D5, P5, R5, O5, E5.out, S5.out⟩
        case measure => simp [intOf]; omega
    · obtain rfl : k = ds.length := by omega
      obtain ⟨A5, c5, hA5⟩ := hod.out.shape
      subst hA5
      have hN : rulesOf ps = ds := by rw [hps.out, List.take_length]
      have HN := Lib.hid hN
      have cv : _ = some (Value.slice A5 ps.length c5) := hbo.out.cell 0
      have cr : _ = some (Value.slice none 0 0) := hbr.out.cell 0
      have fr := hbr.out.free 0
      have G := grown_set wr ⟨w.heap.size + 1, 0, none⟩ (.slice A5 ps.length c5)
      have D5 : Hid (OwnD w (wr.setCell ⟨w.heap.size + 1, 0, none⟩ (.slice A5 ps.length c5)) (.slice A5 ps.length c5) ps) := (hod.out.keep G (fun u hu g hg hh => by have h1 := (hod.out.block u hu g hg).1; have := HSA.out; injection hh with hh; simp at hh; omega)).down (by have := HSA.out; omega)
      have E5 : Hid (Ext w (wr.setCell ⟨w.heap.size + 1, 0, none⟩ (.slice A5 ps.length c5))) := he.setCell (p := ⟨w.heap.size + 1, 0, none⟩) (by show w.heap.size ≤ w.heap.size + 1; omega) _
      have z5 : (wr.setCell ⟨w.heap.size + 1, 0, none⟩ (.slice A5 ps.length c5)).cell? ⟨w.heap.size + 1, 0, none⟩ = some (.slice A5 ps.length c5) := World.cell?_setCell_same _ _ _ cr
      clear hN G
      go_wp2
      exact bodyPost_ret (v := .agg #[.slice A5 ps.length c5]) (by simp [results, Try.results31, go_sem, z5]) rfl ⟨_, ps, rfl, HN.out, D5.out, E5.out⟩
set_option maxRecDepth 100000 in
set_option maxHeartbeats 8000000 in
theorem iCopyD_c (A : Option Addr) (ds : List DRule) (c : Nat) (w : World) (h : RdD w A ds c) (hz : szD ds ≤ 1048576) :
    Calls Try.prog 35 #[vdesc (.slice A ds.length c)] w fun e w' => ∃ v ps, e = .returned (vdesc v) ∧ rulesOf ps = ds ∧ OwnD w w' v ps ∧ Ext w w' := by
  have hn : ds.length ≤ 1048576 := by unfold szD at hz; omega
  have HZ : Hid (∀ k (hk : k < ds.length), szRl ds[k] ≤ 1048576) := fun k hk => szD_mem hz (List.getElem_mem hk)
  obtain ⟨W0, HW0, HP, HR, e0, hsA⟩ := boxes2' w #[.slice A ds.length c] #[.slice none 0 0] 28 28
  have HSA := Lib.hid hsA; clear hsA
  have HH := Lib.hid h; clear h
  unfold vdesc
  go_enter Try.func35, Try.ntmps35
  go_wp2_with (first
    | (at_make; go_must (rw [← HW0.out]; refine wpList_mk0 rfl _ _ _ rfl E_rule W0 W0 (Ext.refl W0) ds.length rfl rfl (by omega) (by simp [maxLen]; omega) ?_); intro w1 ho he; have cp1 : _ = some (Value.slice A ds.length c) := (HP.ext he).cell 0; have cp2 : _ = some (Value.slice A ds.length c) := ((HP.ext he).ext (Ext_alloc (.cells #[.slice (some ⟨W0.heap.size, 0, none⟩) 0 ds.length] 28) (Ext.refl w1))).cell 0))
  have x1 := Ext_alloc (.cells #[.slice (some ⟨W0.heap.size, 0, none⟩) 0 ds.length] 28) (Ext.refl w1)
  have hg3 : W0.heap.size < w1.heap.size := (World.ownsRow.lt ho _ rfl).2
  have HP1 := Lib.hid ((HP.ext he).ext x1); have HR1 := Lib.hid ((HR.ext he).ext x1)
  have HO1 := Lib.hid (Box.new w1 #[.slice (some ⟨W0.heap.size, 0, none⟩) 0 ds.length] 28)
  have OD1 : Hid (OwnD W0 (w1.alloc (.cells #[.slice (some ⟨W0.heap.size, 0, none⟩) 0 ds.length] 28)) (.slice (some ⟨W0.heap.size, 0, none⟩) 0 ds.length) []) := ⟨Own.ext ho x1, fun p hp => by simp at hp, Far.one _⟩
  have NF1 : Hid (∀ u ∈ (Value.slice (some ⟨W0.heap.size, 0, none⟩) 0 ds.length) :: ([] : List RV).flatMap RV.vals, u.ownBlock ≠ some w1.heap.size) := by
    intro u hu hh
    simp only [List.flatMap_nil, List.mem_cons, List.not_mem_nil, or_false] at hu
    subst hu; injection hh with hh; exact absurd hh (Nat.ne_of_lt hg3)
  have e1 := (e0.trans he).trans x1
  have hs1 : W0.heap.size ≤ (w1.alloc (.cells #[.slice (some ⟨W0.heap.size, 0, none⟩) 0 ds.length] 28)).heap.size := by rw [World.size_alloc]; omega
  clear ho he x1 e0 HP HR
  go_loopw [14] (fun ix wr => ∃ (k : Nat) (ps : List RV) (v : Value), k ≤ ds.length ∧ ix = .int .i64 k ∧ ps.length ≤ k ∧ k ≤ ps.length ∧ Hid (rulesOf ps = ds.take k) ∧ Hid (OwnD W0 wr v ps) ∧ Hid (Box wr w.heap.size #[.slice A ds.length c] 28) ∧ Hid (Box wr (w.heap.size + 1) #[.slice none 0 0] 28) ∧ Hid (Box wr w1.heap.size #[v] 28) ∧ Hid (∀ u ∈ v :: ps.flatMap RV.vals, u.ownBlock ≠ some w1.heap.size) ∧ Ext w wr ∧ W0.heap.size ≤ wr.heap.size) (fun ix _ => ds.length - (intOf ix).toNat)
  case atStart => exact ⟨0, [], _, by omega, rfl, by simp, by simp, by simp [Hid, rulesOf], OD1, HP1, HR1, HO1, NF1, e1, hs1⟩
  case round =>
    clear OD1 HP1 HR1 HO1 NF1 e1 hs1 HW0 cp1 cp2
    obtain ⟨k, ps, v, hk, rfl, hl1, hl2, hps, hod, hbp, hbr, hbo, hnf, he, hsz⟩ := hrel
    by_cases hlt : k < ds.length
    · obtain ⟨b, off, Ab, cb, An, cn, At, ct, Ak, ck, hA, hb, hs, hr⟩ := HH.out.at k hlt
      subst hA
      have hzk := HZ.out k hlt
      have HT : Hid (ds.take (k+1) = ds.take k ++ [ds[k]]) := List.take_succ_eq_append_getElem hlt
      generalize ds[k] = r at *
      have C := Lib.hid (fun w h => iCopyR_c r Ab cb An cn At ct Ak ck w h hzk)
      obtain ⟨k0, k1, k2, k3, k4, k5, k6, k7⟩ := hr
      unfold vrule at C
      have xr := Ext_alloc (.cells #[.string r.nm, .int .i64 r.kind, .int .i64 r.size, .bool r.little, .slice Ab r.bytes.length cb, .slice An r.names.length cn, .slice At r.tags.length ct, .slice Ak r.kids.length ck] 70) (Ext.refl wr)
      have hd0 := he.trans xr
      have hd := Ext_drew hd0
      have xd := xr.trans (Ext_drew (Ext.refl (wr.alloc (.cells #[.string r.nm, .int .i64 r.kind, .int .i64 r.size, .bool r.little, .slice Ab r.bytes.length cb, .slice An r.names.length cn, .slice At r.tags.length ct, .slice Ak r.kids.length ck] 70))))
      have cv : _ = some v := (hbo.out.ext xd).cell 0
      have hbx := Lib.hid ((Box.new wr #[.string r.nm, .int .i64 r.kind, .int .i64 r.size, .bool r.little, .slice Ab r.bytes.length cb, .slice An r.names.length cn, .slice At r.tags.length ct, .slice Ak r.kids.length ck] 70).ext (Ext_drew (Ext.refl (wr.alloc (.cells #[.string r.nm, .int .i64 r.kind, .int .i64 r.size, .bool r.little, .slice Ab r.bytes.length cb, .slice An r.names.length cn, .slice At r.tags.length ct, .slice Ak r.kids.length ck] 70)))))
      have cx := hbx.out.cell
      have HS := Lib.hid hs; have hzk := Lib.hid hzk
      have hbod := Lib.hid (hbo.out.ext xd)
      have hodd := Lib.hid (hod.out.ext xd)
      have hg3w := hbo.out.lt
      have hszd : Hid (W0.heap.size ≤ (wr.alloc (.cells #[.string r.nm, .int .i64 r.kind, .int .i64 r.size, .bool r.little, .slice Ab r.bytes.length cb, .slice An r.names.length cn, .slice At r.tags.length ct, .slice Ak r.kids.length ck] 70)).drew.heap.size) := by show _ ≤ _; rw [size_drew, World.size_alloc]; omega
      clear hs
      have b1 : (0 : Int) ≤ (k : Int) := by omega
      have b2 : (k : Int) < (ds.length : Int) := by omega
      go_wp2_with fail
      go_region_law (first
        | (go_simp; go_at_call 66; refine (C.out _ (HS.out.ext hd)).mono ?_; rintro _ w2 ⟨vb, vn, vt, vk, rfl, hro, hfr, he2⟩; have hro := Lib.hid hro; have hfr := Lib.hid hfr; have hbo3 := Lib.hid ((hbod.out.ext he2).ext (Ext_alloc (.cells #[.string r.nm, .int .i64 r.kind, .int .i64 r.size, .bool r.little, vb, vn, vt, vk] 70) (Ext.refl w2))); have c2 : _ = some v := (hbod.out.ext he2).cell 0; have c3 : _ = some v := hbo3.out.cell 0; have hsz2 : Hid (W0.heap.size ≤ (w2.alloc (.cells #[.string r.nm, .int .i64 r.kind, .int .i64 r.size, .bool r.little, vb, vn, vt, vk] 70)).heap.size) := (by have h1 := he2.size; have h2 := hszd.out; show _ ≤ _; rw [World.size_alloc]; omega); have hone := Lib.hid (vals_cells_one _ hro.out (szRl_short hzk.out).1); have hNv : Hid (v.ownBlock ≠ some w1.heap.size) := hnf.out v (List.mem_cons_self ..))
        | (refine step_app8 rfl (.tmp 19) (.tmp 22) _ rfl E_rule W0 (w2.alloc (.cells #[.string r.nm, .int .i64 r.kind, .int .i64 r.size, .bool r.little, vb, vn, vt, vk] 70)) v ps.length (ps.flatMap RV.cells) rfl (Own.ext (Own.ext hodd.out.row he2) (Ext_alloc _ (Ext.refl _))) hsz2.out ⟨w2.heap.size, 0, none⟩ 1 1 (RV.cells ⟨r, vb, vn, vt, vk⟩) rfl rfl (fun j u hu => (World.cell?_alloc_at' w2 (RV.cells ⟨r, vb, vn, vt, vk⟩) 70 j).trans hu) hone.out (by simp [maxLen]; omega) (by omega) ?_; intro v4 w4 ho4 hg4 hv4; have hbo4 := Lib.hid (Box.moved (hbo3.out) hg4 hNv.out); have c4 := hbo4.out.cell 0; have f4 := hbo4.out.free 0; have HO4 := Lib.hid (OwnD.snoc hodd.out he2 hro.out hfr.out hszd.out ho4 hg4 hv4); have HG4 := Lib.hid hg4; have HV4 := Lib.hid hv4; clear ho4 hg4 hv4; obtain ⟨A4, q4, hA4⟩ := HO4.out.shape; replace hA4 : v4 = .slice A4 (ps.length + 1) q4 := (by rw [hA4, List.length_append]; rfl); subst hA4))
      all_goals
        have hW := HSA.out
        have x3 := Ext_alloc (.cells #[.string r.nm, .int .i64 r.kind, .int .i64 r.size, .bool r.little, vb, vn, vt, vk] 70) (Ext.refl w2)
        have bV : ∀ g, v.ownBlock = some g → w.heap.size + 2 ≤ g := fun g hg => by have := (hod.out.block v (List.mem_cons_self ..) g hg).1; omega
        have e4 := ((hd.trans he2).trans x3).grown HG4.out (fun g hg => by have := bV g hg; omega)
        have P5 : Hid (Box (w4.setCell ⟨w1.heap.size, 0, none⟩ (.slice A4 (ps.length + 1) q4)) w.heap.size #[.slice (some ⟨b, off, none⟩) ds.length c] 28) := (((hbp.out.ext (xd.trans he2)).ext x3).moved HG4.out (fun hh => by have := bV _ hh; omega)).other (by omega) 0 _
        have R5 : Hid (Box (w4.setCell ⟨w1.heap.size, 0, none⟩ (.slice A4 (ps.length + 1) q4)) (w.heap.size + 1) #[.slice none 0 0] 28) := (((hbr.out.ext (xd.trans he2)).ext x3).moved HG4.out (fun hh => by have := bV _ hh; omega)).other (by omega) 0 _
        have O5 : Hid (Box (w4.setCell ⟨w1.heap.size, 0, none⟩ (.slice A4 (ps.length + 1) q4)) w1.heap.size #[.slice A4 (ps.length + 1) q4] 28) := hbo4.out.set 0 (.slice A4 (ps.length + 1) q4)
        have NF5 : Hid (∀ u ∈ (Value.slice A4 (ps.length + 1) q4) :: (ps ++ [(⟨r, vb, vn, vt, vk⟩ : RV)]).flatMap RV.vals, u.ownBlock ≠ some w1.heap.size) := by
          intro u hu hh
          have hx2 := he2.size
          rw [size_drew, World.size_alloc] at hx2
          rcases List.mem_cons.1 hu with rfl | hu
          · rcases HV4.out with h4 | h4
            · rw [h4] at hh; exact hNv.out hh
            · rw [h4] at hh; injection hh with hh; rw [World.size_alloc] at hh; omega
          · rw [List.flatMap_append] at hu
            rcases List.mem_append.1 hu with hu | hu
            · exact hnf.out u (List.mem_cons_of_mem _ hu) hh
            · rw [List.flatMap_cons, List.flatMap_nil, List.append_nil] at hu
              have h4 := (hro.out.block u hu _ hh).1
              rw [size_drew, World.size_alloc] at h4; omega
        have D5 : Hid (OwnD W0 (w4.setCell ⟨w1.heap.size, 0, none⟩ (.slice A4 (ps.length + 1) q4)) (.slice A4 (ps.length + 1) q4) (ps ++ [⟨r, vb, vn, vt, vk⟩])) := HO4.out.keep (grown_set w4 ⟨w1.heap.size, 0, none⟩ _) (fun u hu g hg hh => by injection hh with hh; subst hh; exact NF5.out u hu hg)
        have E5 : Hid (Ext w (w4.setCell ⟨w1.heap.size, 0, none⟩ (.slice A4 (ps.length + 1) q4))) := e4.setCell (p := ⟨w1.heap.size, 0, none⟩) (by show w.heap.size ≤ w1.heap.size; omega) _
        have S5 : Hid (W0.heap.size ≤ (w4.setCell ⟨w1.heap.size, 0, none⟩ (.slice A4 (ps.length + 1) q4)).heap.size) := by
          have h1 := HG4.out.size; have h2 := hsz2.out
          show _ ≤ _; simp only [World.size_setCell]; omega
        have N5 : Hid (rulesOf (ps ++ [⟨r, vb, vn, vt, vk⟩]) = ds.take (k + 1)) := by show _ = _; rw [rulesOf_append, hps.out, HT.out]; rfl
        clear hW x3 bV e4
        go_wp2
        go_roundw
        case rel => exact ⟨k + 1, ps ++ [⟨r, vb, vn, vt, vk⟩], _, by omega, by go_num, by simp; omega, by simp; omega, N5, D5, P5, R5, O5, NF5, E5.out, S5.out⟩
        case measure => simp [intOf]; omega
    · obtain rfl : k = ds.length := by omega
      obtain ⟨A5, c5, hA5⟩ := hod.out.shape
      subst hA5
      have hN : rulesOf ps = ds := by rw [hps.out, List.take_length]
      have HN := Lib.hid hN
      have cv : _ = some (Value.slice A5 ps.length c5) := hbo.out.cell 0
      have cr : _ = some (Value.slice none 0 0) := hbr.out.cell 0
      have fr := hbr.out.free 0
      have G := grown_set wr ⟨w.heap.size + 1, 0, none⟩ (.slice A5 ps.length c5)
      have D5 : Hid (OwnD w (wr.setCell ⟨w.heap.size + 1, 0, none⟩ (.slice A5 ps.length c5)) (.slice A5 ps.length c5) ps) := (hod.out.keep G (fun u hu g hg hh => by have h1 := (hod.out.block u hu g hg).1; have := HSA.out; injection hh with hh; simp at hh; omega)).down (by have := HSA.out; omega)
      have E5 : Hid (Ext w (wr.setCell ⟨w.heap.size + 1, 0, none⟩ (.slice A5 ps.length c5))) := he.setCell (p := ⟨w.heap.size + 1, 0, none⟩) (by show w.heap.size ≤ w.heap.size + 1; omega) _
      have z5 : (wr.setCell ⟨w.heap.size + 1, 0, none⟩ (.slice A5 ps.length c5)).cell? ⟨w.heap.size + 1, 0, none⟩ = some (.slice A5 ps.length c5) := World.cell?_setCell_same _ _ _ cr
      clear hN G
      go_wp2
      exact bodyPost_ret (v := .agg #[.slice A5 ps.length c5]) (by simp [results, Try.results35, go_sem, z5]) rfl ⟨_, ps, rfl, HN.out, D5.out, E5.out⟩
end Go.Proofs.Ytalnekcmfagjoaa
