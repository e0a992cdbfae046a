/- Draws of descriptions: l30Pair (two descriptions, often alike). (Printed by gen/gx30.py.) -/
import Derived.Test.YtophjmphjdhjoaaZLp5
set_option linter.unusedVariables false
set_option linter.unusedSimpArgs false
namespace Go.Proofs.Ytophjmphjdhjoaa
open Go.RowKit Go.Sort

theorem KeepD.low {n0 n1 : Nat} {w : World} {v : Value} {ds : List DRule} (h : KeepD n1 w v ds) (hn : n0 ≤ n1) : KeepD n0 w v ds := by
  obtain ⟨A, c, h1, h2⟩ := h.out
  exact ⟨A, c, h1, fun w' e => h2 w' (e.up hn)⟩
theorem OwnD.keepD {wb w : World} {v : Value} {ps : List RV} {n0 : Nat} (h : OwnD wb w v ps) (hs : SmD (rulesOf ps)) (hn : ∀ u ∈ v :: ps.flatMap RV.vals, ∀ b, u.ownBlock = some b → n0 ≤ b) : KeepD n0 w v (rulesOf ps) := by
  have hfar := h.far
  unfold Far at hfar
  rw [List.pairwise_cons] at hfar
  exact (RowD.of_own (X := fun b => v.ownBlock = some b) h hs (fun b hb => ⟨hn v (List.mem_cons_self ..) b hb, hb⟩) (fun u hu b hb => ⟨hn u (List.mem_cons_of_mem _ hu) b hb, fun hx => hfar.1 u hu b hx hb⟩)).keep
theorem pair_fin {wb w W : World} {p : Nat} {A : Option Addr} {l : List UInt8} {c : Nat} {u1 u2 : Value} {d1 d2 : List DRule} (hC : Cur wb W p A l c) (hG : w.grownBy W (some p)) (K1 : KeepD (w.heap.size + 2) W u1 d1) (K2 : KeepD (w.heap.size + 2) W u2 d2)
    (B1 : Box W w.heap.size #[.slice none 0 0] 26) (B2 : Box W (w.heap.size + 1) #[.slice none 0 0] 26) (hbw : wb.heap.size ≤ w.heap.size) (hp : p < w.heap.size) :
    KeepD w.heap.size ((W.setCell ⟨w.heap.size, 0, none⟩ u1).setCell ⟨w.heap.size + 1, 0, none⟩ u2) u1 d1 ∧ KeepD w.heap.size ((W.setCell ⟨w.heap.size, 0, none⟩ u1).setCell ⟨w.heap.size + 1, 0, none⟩ u2) u2 d2 ∧
    Cur wb ((W.setCell ⟨w.heap.size, 0, none⟩ u1).setCell ⟨w.heap.size + 1, 0, none⟩ u2) p A l c ∧ w.grownBy ((W.setCell ⟨w.heap.size, 0, none⟩ u1).setCell ⟨w.heap.size + 1, 0, none⟩ u2) (some p) ∧
    ((W.setCell ⟨w.heap.size, 0, none⟩ u1).setCell ⟨w.heap.size + 1, 0, none⟩ u2).cell? ⟨w.heap.size, 0, none⟩ = some u1 ∧ ((W.setCell ⟨w.heap.size, 0, none⟩ u1).setCell ⟨w.heap.size + 1, 0, none⟩ u2).cell? ⟨w.heap.size + 1, 0, none⟩ = some u2 := by
  have s1 : Same (w.heap.size + 2) W (W.setCell ⟨w.heap.size, 0, none⟩ u1) := Same.set _ _ (.inl (by show w.heap.size < _; omega))
  have s2 : Same (w.heap.size + 2) (W.setCell ⟨w.heap.size, 0, none⟩ u1) ((W.setCell ⟨w.heap.size, 0, none⟩ u1).setCell ⟨w.heap.size + 1, 0, none⟩ u2) := Same.set _ _ (.inl (by show w.heap.size + 1 < _; omega))
  have b1 := (B1.set 0 u1).other (g' := w.heap.size + 1) (by omega) 0 u2
  have b2 := (B2.other (g' := w.heap.size) (by omega) 0 u1).set 0 u2
  exact ⟨(K1.same (s1.trans s2)).low (by omega), (K2.same (s1.trans s2)).low (by omega), (hC.set (a := ⟨w.heap.size, 0, none⟩) (by show w.heap.size ≠ p; omega) hbw u1).set (a := ⟨w.heap.size + 1, 0, none⟩) (by show w.heap.size + 1 ≠ p; omega) (by show wb.heap.size ≤ w.heap.size + 1; omega) u2,
    grown_new (a := ⟨w.heap.size + 1, 0, none⟩) (grown_new (a := ⟨w.heap.size, 0, none⟩) hG (Nat.le_refl _) u1) (by show w.heap.size ≤ w.heap.size + 1; omega) u2, by simpa using b1.cell 0, by simpa using b2.cell 0⟩
set_option maxRecDepth 100000 in
set_option maxHeartbeats 16000000 in
theorem l30Pair_c (wb w : World) (p : Nat) (A : Option Addr) (l : List UInt8) (c : Nat) (hA : Bs wb A l c) (hC : Cur wb w p A l c) :
    Calls Try.prog 19 #[.pointer (some ⟨p, 0, none⟩)] w fun e w' => ∃ v1 v2 d1 d2, e = .returned (.tuple #[vdesc v1, vdesc v2]) ∧ SmD d1 ∧ SmD d2 ∧ KeepD w.heap.size w' v1 d1 ∧ KeepD w.heap.size w' v2 d2 ∧ Cur wb w' p A l c ∧ w.grownBy w' (some p) := by
  have hplt := hC.lt
  have hbw := hC.2.1.size
  have CBe := Lib.hid (fun n w h hn => l1Below_c n wb w p A l c hA h hn)
  have CD := Lib.hid (fun w h => l4Description_c wb w p A l c hA h)
  have CM := Lib.hid (fun Ad ds cd kind hk h1 h2 h3 w h hD => l4Make_c Ad ds cd kind hk h1 h2 h3 wb w p A l c hA h hD)
  have CO := Lib.hid (fun Aa ds ca h1 h2 h3 h4 w h hD => l30Other_c Aa ds ca h1 h2 h3 h4 wb w p A l c hA h hD)
  have CY := Lib.hid (fun w h => l4Any_c wb w p A l c hA h)
  unfold vdesc at *
  unfold vrule at CM
  obtain ⟨W0, hW0, HR1, HR2, e0, hsA⟩ := boxes2' w #[.slice none 0 0] #[.slice none 0 0] 26 26
  have hsA := Lib.hid hsA
  have HR1 := Lib.hid HR1; have HR2 := Lib.hid HR2
  go_enter Try.func19, Try.ntmps19
  go_wp2_with fail
  rw [← hW0.out]
  refine (CD.out _ (hC.ext e0)).mono ?_; rintro _ w2 ⟨v, ps, rfl, hV, hp6, hC2, hg2⟩
  have hB2 := HR2.out.moved hg2 (some_ne (by omega))
  have hpl2 := hC2.lt
  have hRl := hB2.lt
  have x2 := Ext_alloc (.cells #[v] 26) (Ext.refl w2)
  have S2 : Hid (DS wb W0 (w2.alloc (.cells #[v] 26)) p A l c w2.heap.size v ps w.heap.size) :=
    ⟨Box.new w2 _ _, hV.own.ext x2, fun u hu b hb => by
      have h1 := hV.new u hu b hb
      have h2 := (hV.own.block u hu b hb).2
      have := hsA.out
      exact ⟨by omega, by omega, by omega, by omega⟩, hC2.ext x2, hg2.trans (grown_ext x2 _), by have := hg2.size; omega, by omega, by omega, (HR1.out.moved hg2 (some_ne (by omega))).ext x2, by omega, by omega⟩
  have HB2 := Lib.hid (hB2.ext x2)
  have HMV : Hid (MadeD (rulesOf ps) ∧ (∀ q ∈ ps, SmallR q.r) ∧ ∃ h : 0 < (rulesOf ps).length, (rulesOf ps)[0].kind = 1) := ⟨hV.made, fun q hq => hV.small.2 _ (List.mem_map_of_mem hq), hV.first⟩
  obtain ⟨Ad, cd, hv⟩ := hV.own.shape
  subst hv
  clear hV hC2 hg2 hB2 x2 CD HR1 HR2
  go_wp2_with fail
  refine (CBe.out 3 _ S2.out.cur (by omega)).mono ?_; rintro _ w3 ⟨y, hy, rfl, hC3, hg3⟩
  have hy3 : y < 3 := by unfold below at hy; rw [if_neg (by omega)] at hy; omega
  have S3 := Lib.hid (S2.out.moved hC3 hg3)
  have HB3 := Lib.hid (HB2.out.moved hg3 (some_ne (by omega)))
  clear hy hC3 hg3 S2 HB2
  go_wp2
  go_loopw [5] (fun t wr => ∃ (i : Nat) (v : Value) (ps : List RV), i < 3 ∧ t = .int .i64 i ∧ Hid (ps.length + i ≤ 8 ∧ MadeD (rulesOf ps) ∧ (∀ q ∈ ps, SmallR q.r) ∧ ∃ h : 0 < (rulesOf ps).length, (rulesOf ps)[0].kind = 1) ∧ Hid (DS wb W0 wr p A l c w2.heap.size v ps w.heap.size) ∧ Hid (Box wr (w.heap.size + 1) #[.slice none 0 0] 26)) (fun t _ => (intOf t).toNat)
  case atStart => exact ⟨y, _, ps, hy3, rfl, ⟨by omega, HMV.out.1, HMV.out.2.1, HMV.out.2.2⟩, S3, HB3⟩
  case round =>
    clear S3 HB3 HMV
    obtain ⟨i, v, ps, hi3, rfl, hl, S4, HB4⟩ := hrel
    have hSD : Hid (SmallD (rulesOf ps)) := ⟨by have := hl.out.1; simp [rulesOf]; omega, fun r hr => by obtain ⟨q, hq, rfl⟩ := List.mem_map.1 hr; exact hl.out.2.2.1 q hq⟩
    obtain ⟨Ad, cd, hv, _⟩ := S4.out.rd hSD.out
    subst hv
    have cd0 : _ = some (Value.slice Ad ps.length cd) := S4.out.box.cell 0
    by_cases hi0 : 0 < i
    · have CP : Hid (∀ (k : Int) (w' : World), 1 ≤ k ∧ k ≤ 10 → DS wb W0 w' p A l c w2.heap.size (.slice Ad ps.length cd) ps w.heap.size → Calls Try.prog 37 #[.pointer (some ⟨p, 0, none⟩), .agg #[.slice Ad ps.length cd], .int .i64 k] w' fun e w'' => ∃ q : RV, e = .returned (.agg #[.string q.r.nm, .int .i64 q.r.kind, .int .i64 q.r.size, .bool q.r.little, q.vb, q.vn, q.vt, q.vk]) ∧ SmallR q.r ∧ q.r.kind = k ∧ MadeR (rulesOf ps) q.r ∧ RuleOwn wb w'' q ∧ Far q.vals ∧ (∀ u ∈ q.vals, ∀ b, u.ownBlock = some b → w'.heap.size ≤ b) ∧ Cur wb w'' p A l c ∧ w'.grownBy w'' (some p)) := fun k w' hk hS' => by
        obtain ⟨Ad', cd', hv', hrd⟩ := hS'.rd hSD.out
        injection hv' with q1 _ q2
        subst q1; subst q2
        have h1 := CM.out Ad (rulesOf ps) cd k hk (by have := hl.out.1; simp [rulesOf]; omega) (.inr ⟨0, hl.out.2.2.2⟩) hl.out.2.1 w' hS'.cur hrd
        rw [show (rulesOf ps).length = ps.length by simp [rulesOf]] at h1
        exact h1
      have SX := Lib.hid (S4.out.ext (Ext_drew (Ext.refl wr)))
      have HBX := Lib.hid (HB4.out.ext (Ext_drew (Ext.refl wr)))
      have HMX : Hid (ps.length + 1 ≤ maxLen ∧ (ps.length + 1) * 136 ≤ 140737488355328) := by have := hl.out.1; exact ⟨by simp only [maxLen]; omega, by omega⟩
      have HPre : Hid (∀ w', DS wb W0 w' p A l c w2.heap.size (.slice Ad ps.length cd) ps w.heap.size → (∀ u ∈ (Value.slice Ad ps.length cd) :: ps.flatMap RV.vals, ∀ b, u.ownBlock = some b → b < w'.heap.size) ∧ (W0.heap.size ≤ w'.heap.size ∧ w2.heap.size < w'.heap.size ∧ p < w'.heap.size ∧ w.heap.size < w'.heap.size)) := fun w' h => by
        have h1 := h.grow.size; have h2 := h.box.lt; have h3 := h.cur.lt; have h4 := h.res.lt
        exact ⟨fun u hu b hb => (h.own.block u hu b hb).2, h1, h2, h3, h4⟩
      have HAB : lv2 (fun w' => w'.cell? ⟨w2.heap.size, 0, none⟩ = some (Value.slice Ad ps.length cd)) (fun _ => True) 2 wr.drew := ⟨SX.out.box.cell 0, trivial⟩
      go_wp2_with fail
      refine wp_region_C (C := fun j => lv2 (fun w' => w'.cell? ⟨w2.heap.size, 0, none⟩ = some (Value.slice Ad ps.length cd)) (fun _ => True) (([0, 1, 0, 1, 0, 2, 2, 2, 2, 1, 0, 0] : List Nat).getD j 0)) (by kernel_rfl) ?_
      refine wpAnyC_take 0 (i := 0) (v := ?_) (lv2_mono _ _) rfl (by kernel_rfl) (by kernel_rfl) (by kernel_rfl) (by kernel_rfl) (by kernel_rfl) (fun _ _ _ h => h) trivial (Or.inl ⟨by rfl, ?_⟩) ?_
      rotate_left
      · (intro w hSw; clear hSw; go_simp; try with_reducible rfl)
      try simp only [Act.put, List.setIfInBounds_toArray, List.set_cons_zero, List.set_cons_succ]
      refine wpAnyC_take 0 (i := 2) (v := ?_) (lv2_mono _ _) rfl (by kernel_rfl) (by kernel_rfl) (by kernel_rfl) (by kernel_rfl) (by kernel_rfl) (fun _ _ _ h => h) trivial (Or.inl ⟨by rfl, ?_⟩) ?_
      rotate_left
      · (intro w hSw; clear hSw; go_simp; try with_reducible rfl)
      try simp only [Act.put, List.setIfInBounds_toArray, List.set_cons_zero, List.set_cons_succ]
      refine wpAnyC_take 0 (i := 4) (v := ?_) (lv2_mono _ _) rfl (by kernel_rfl) (by kernel_rfl) (by kernel_rfl) (by kernel_rfl) (by kernel_rfl) (fun _ _ _ h => h) trivial (Or.inl ⟨by rfl, ?_⟩) ?_
      rotate_left
      · (intro w hSw; clear hSw; go_simp; try with_reducible rfl)
      try simp only [Act.put, List.setIfInBounds_toArray, List.set_cons_zero, List.set_cons_succ]
      refine wpAnyC_take 1 (i := 1) (v := ?_) (lv2_mono _ _) rfl (by kernel_rfl) (by kernel_rfl) (by kernel_rfl) (by kernel_rfl) (by kernel_rfl) (fun _ _ _ h => h) (And.left HAB) (Or.inl ⟨by rfl, ?_⟩) ?_
      rotate_left
      · (intro w hSw; have hfact : w.cell? ⟨w2.heap.size, 0, none⟩ = some (Value.slice Ad ps.length cd) := hSw; clear hSw; go_simp; try with_reducible rfl)
      try simp only [Act.put, List.setIfInBounds_toArray, List.set_cons_zero, List.set_cons_succ]
      refine wpAnyC_take 1 (i := 3) (v := ?_) (lv2_mono _ _) rfl (by kernel_rfl) (by kernel_rfl) (by kernel_rfl) (by kernel_rfl) (by kernel_rfl) (fun _ _ _ h => h) (And.left HAB) (Or.inl ⟨by rfl, ?_⟩) ?_
      rotate_left
      · (intro w hSw; have hfact : w.cell? ⟨w2.heap.size, 0, none⟩ = some (Value.slice Ad ps.length cd) := hSw; clear hSw; go_simp; try with_reducible rfl)
      try simp only [Act.put, List.setIfInBounds_toArray, List.set_cons_zero, List.set_cons_succ]
      refine wpAnyC_one (i := 5) (by kernel_rfl) rfl (fun K hK => ?_)
      go_simp
      have SL := Lib.hid (SX.out.ext (Ext_alloc (.cells #[.int .i64 6, .int .i64 7, .int .i64 8, .int .i64 5] 3) (Ext.refl _)))
      have HBL := Lib.hid (HBX.out.ext (Ext_alloc (.cells #[.int .i64 6, .int .i64 7, .int .i64 8, .int .i64 5] 3) (Ext.refl _)))
      refine Shut.out hK _ _ ⟨SL.out.box.cell 0, trivial⟩ ?_
      try simp only [Act.put, List.setIfInBounds_toArray, List.set_cons_zero, List.set_cons_succ]
      refine wpAnyC_one (i := 6) (by kernel_rfl) rfl (fun K hK => ?_)
      go_simp
      go_at_call 38
      refine (l1IntBox_c [6, 7, 8, 5] (by simp) (by simp) 4 rfl #[.int .i64 6, .int .i64 7, .int .i64 8, .int .i64 5] rfl wb _ p A l c hA _ SL.out.cur (by first | (refine Box.newd' _ _ _ _ ?_; first | rfl | (simp; done)) | (refine Box.new' _ _ _ _ ?_; first | rfl | (simp; done)))).mono ?_
      rintro _ w5 ⟨x, hx, rfl, hC5, hg5⟩
      have hx10 : 1 ≤ x ∧ x ≤ 10 := by simp at hx; omega
      have S5 := Lib.hid (DS.moved SL.out hC5 hg5)
      have HB5 := Lib.hid (HBL.out.moved hg5 (some_ne (by omega)))
      have HOLD := Lib.hid (HPre.out _ S5.out).1
      have HNG := Lib.hid (HPre.out _ S5.out).2
      clear hx hC5 hg5
      refine Shut.out hK _ _ ⟨S5.out.box.cell 0, trivial⟩ ?_
      try simp only [Act.put, List.setIfInBounds_toArray, List.set_cons_zero, List.set_cons_succ]
      refine wpAnyC_one (i := 7) (by kernel_rfl) rfl (fun K hK => ?_)
      go_simp
      go_at_call 37
      refine (CP.out x _ hx10 S5.out).mono ?_
      rintro _ w6 ⟨q, rfl, hsm, hkq, hmr, hro, hfr, hnb, hC6, hg6⟩
      have S6 := Lib.hid (DS.moved S5.out hC6 hg6)
      have HB6 := Lib.hid (HB5.out.moved hg6 (some_ne (by omega)))
      have hone := Lib.hid (vals_cells_one q hro hsm.short)
      have HRO := Lib.hid (hro.ext (Ext_alloc (.cells #[.string q.r.nm, .int .i64 q.r.kind, .int .i64 q.r.size, .bool q.r.little, q.vb, q.vn, q.vt, q.vk] 35) (Ext.refl _)))
      have HSM := Lib.hid hsm
      have HMR := Lib.hid hmr
      have HFR := Lib.hid hfr
      have HNB := Lib.hid hnb
      clear hC6 hg6 hsm hmr hkq hro hfr hnb hx10
      refine Shut.out hK _ _ ⟨S6.out.box.cell 0, trivial⟩ ?_
      try simp only [Act.put, List.setIfInBounds_toArray, List.set_cons_zero, List.set_cons_succ]
      refine wpAnyC_one (i := 8) (by kernel_rfl) rfl (fun K hK => ?_)
      go_simp
      have S5' := Lib.hid (S6.out.ext (Ext_alloc (.cells #[.string q.r.nm, .int .i64 q.r.kind, .int .i64 q.r.size, .bool q.r.little, q.vb, q.vn, q.vt, q.vk] 35) (Ext.refl _)))
      have HB5' := Lib.hid (HB6.out.ext (Ext_alloc (.cells #[.string q.r.nm, .int .i64 q.r.kind, .int .i64 q.r.size, .bool q.r.little, q.vb, q.vn, q.vt, q.vk] 35) (Ext.refl _)))
      refine Shut.out hK _ _ ⟨S5'.out.box.cell 0, trivial⟩ ?_
      try simp only [Act.put, List.setIfInBounds_toArray, List.set_cons_zero, List.set_cons_succ]
      refine wpAnyC_one (i := 9) (by kernel_rfl) rfl (fun K hK => ?_)
      refine step_app8 rfl (.tmp 16) (.tmp 23) _ rfl E_rule wb (w6.alloc (.cells #[.string q.r.nm, .int .i64 q.r.kind, .int .i64 q.r.size, .bool q.r.little, q.vb, q.vn, q.vt, q.vk] 35)) (Value.slice Ad ps.length cd) ps.length (ps.flatMap RV.cells) rfl S5'.out.own.row S5'.out.cur.2.1.size ⟨w6.heap.size, 0, none⟩ 1 1 (RV.cells q) rfl rfl (fun j u hu => (World.cell?_alloc_at' w6 (RV.cells q) 35 j).trans hu) hone.out HMX.out.1 HMX.out.2 ?_
      intro v7 w7 ho7 hg7 hv7
      have hvb := (S5'.out.new _ (List.mem_cons_self ..))
      obtain ⟨⟨z7, y7⟩, M7⟩ := DS.snoc S5'.out HRO.out HFR.out HOLD.out HNB.out HNG.out ho7 (S5'.out.cur.2.1.grown hg7 (fun k hk => (World.ownsRow.lt S5'.out.own.row k hk).1)) hg7 hv7
      obtain ⟨A7, c7, hsh⟩ := M7.own.shape
      replace hsh : v7 = .slice A7 (ps.length + 1) c7 := (by rw [hsh, List.length_append]; rfl)
      subst hsh
      have HB7 := Lib.hid (HB5'.out.moved hg7 (fun hh => by have := (hvb _ hh).1; have := hsA.out; omega))
      clear ho7 hg7 hv7 hvb
      have M7 := Lib.hid M7
      refine Shut.out hK _ _ z7 ?_
      try simp only [Act.put, List.setIfInBounds_toArray, List.set_cons_zero, List.set_cons_succ]
      refine wpAnyC_one (i := 10) (by kernel_rfl) rfl (fun K hK => ?_)
      go_simp
      refine Shut.out hK _ _ trivial ?_
      try simp only [Act.put, List.setIfInBounds_toArray, List.set_cons_zero, List.set_cons_succ]
      refine wpAnyC_one (i := 11) (by kernel_rfl) rfl (fun K hK => ?_)
      go_simp
      refine Shut.out hK _ _ trivial ?_
      try simp only [Act.put, List.setIfInBounds_toArray, List.set_cons_zero, List.set_cons_succ]
      refine wpAnyC_done (by kernel_rfl) ?_ _
      have HL' : Hid ((ps ++ [q]).length + (i - 1) ≤ 8 ∧ MadeD (rulesOf (ps ++ [q])) ∧ (∀ u ∈ ps ++ [q], SmallR u.r) ∧ ∃ h : 0 < (rulesOf (ps ++ [q])).length, (rulesOf (ps ++ [q]))[0].kind = 1) := by
        obtain ⟨h1, h2, h3, h4, h5⟩ := hl.out
        have e : rulesOf (ps ++ [q]) = rulesOf ps ++ [q.r] := by simp [rulesOf]
        refine ⟨by simp; omega, by rw [e]; exact h2.snoc HMR.out, fun r hr => ?_, ?_⟩
        · rcases List.mem_append.1 hr with h6 | h6
          · exact h3 r h6
          · rw [List.mem_singleton.1 h6]; exact HSM.out
        · refine ⟨by rw [e]; simp, ?_⟩
          simp only [e]
          rw [List.getElem_append_left h4]; exact h5
      have HB9 := Lib.hid (HB7.out.other (g' := w2.heap.size) (by omega) 0 (.slice A7 (ps.length + 1) c7))
      clear S4 cd0 SX HBX HMX HPre hSD hl CP HAB HB4 HB7 S5 S5' z7 y7 HRO HFR HNB HOLD HNG hone HB5 SL HBL
      go_wp2
      go_roundw
      case rel => exact ⟨i - 1, _, ps ++ [q], by omega, by go_num, HL', M7, HB9⟩
      case measure => simp [intOf]; omega
    · obtain rfl : i = 0 := by omega
      have hds0 : 0 < (rulesOf ps).length := hl.out.2.2.2.choose
      obtain ⟨Ad', cd', hv', hrd⟩ := S4.out.rd hSD.out
      injection hv' with q1 _ q2
      subst q1; subst q2
      have CO2 := CO.out Ad (rulesOf ps) cd hSD.out hl.out.2.1 hds0 (by have := hl.out.1; simp [rulesOf]; omega) wr S4.out.cur (hrd wr (World.grownBy.refl _ _))
      rw [show (rulesOf ps).length = ps.length by simp [rulesOf]] at CO2
      have CO2 := Lib.hid CO2
      have HSM1 : Hid (SmD (rulesOf ps)) := MadeD.sm hl.out.2.1 hSD.out
      have KA : Hid (KeepD (w.heap.size + 2) wr (Value.slice Ad ps.length cd) (rulesOf ps)) := S4.out.own.keepD HSM1.out (fun u hu b hb => by have := (S4.out.new u hu b hb).1; have := hsA.out; omega)
      have HG4 : Hid (w.grownBy wr (some p)) := (grown_ext e0 _).trans S4.out.grow
      have HW2 := S4.out.box.lt
      have hWr : w.heap.size + 2 ≤ wr.heap.size := by have := S4.out.grow.size; have := hsA.out; omega
      clear CO CM hl hSD hrd hds0
      go_wp2_with fail
      refine CO2.out.mono ?_; rintro _ w5 ⟨v2, es, rfl, hes, KB, hC5, hg5⟩
      obtain ⟨A2, c2, hv2, _⟩ := KB.rd
      subst hv2
      have hp5 : ∀ k, (some p : Option Nat) = some k → k < w.heap.size + 2 ∨ wr.heap.size ≤ k := fun k hk => by injection hk with hk; omega
      have x6 := Ext_alloc (.cells #[.slice A2 es.length c2] 26) (Ext.refl w5)
      have KA6 := Lib.hid ((KA.out.same (Same.of_grown hg5 hp5)).same (Same.of_ext x6))
      have KB6 := Lib.hid ((KB.low hWr).same (Same.of_ext x6))
      have hw5 := hg5.size
      have BA6 := Lib.hid ((S4.out.box.moved hg5 (some_ne (by omega))).ext x6)
      have BB6 := Lib.hid (Box.new w5 #[.slice A2 es.length c2] 26)
      have BR1 := Lib.hid ((S4.out.res.moved hg5 (some_ne (by omega))).ext x6)
      have BR2 := Lib.hid ((HB4.out.moved hg5 (some_ne (by omega))).ext x6)
      have HG6 := Lib.hid ((HG4.out.trans hg5).trans (grown_ext x6 _))
      have HSM2 := Lib.hid hes
      have hC6 := hC5.ext x6
      clear KA KB hg5 hC5 x6 S4 HB4 CO2 HG4 hes hp5 cd0
      go_wp2_with fail
      refine (CBe.out 5 _ hC6 (by omega)).mono ?_; rintro _ w7 ⟨y2, hy2, rfl, hC7, hg7⟩
      clear hy2
      have hp7 : ∀ k, (some p : Option Nat) = some k → k < w.heap.size + 2 ∨ (w5.alloc (.cells #[.slice A2 es.length c2] 26)).heap.size ≤ k := fun k hk => by injection hk with hk; omega
      have KA7 := Lib.hid (KA6.out.same (Same.of_grown hg7 hp7))
      have KB7 := Lib.hid (KB6.out.same (Same.of_grown hg7 hp7))
      have BA7 := Lib.hid (BA6.out.moved hg7 (some_ne (by omega)))
      have BB7 := Lib.hid (BB6.out.moved hg7 (some_ne (by omega)))
      have BR17 := Lib.hid (BR1.out.moved hg7 (some_ne (by omega)))
      have BR27 := Lib.hid (BR2.out.moved hg7 (some_ne (by omega)))
      have HG7 := Lib.hid (HG6.out.trans hg7)
      have HC7 := Lib.hid hC7
      have hlA := BA7.out.lt; have hlB := BB7.out.lt
      clear KA6 KB6 BA6 BB6 BR1 BR2 HG6 hC6 hC7 hg7 hp7
      have SD := Ext_drew (Ext.refl w7)
      have HAB : lv2 (fun w' => w'.cell? ⟨w2.heap.size, 0, none⟩ = some (Value.slice Ad ps.length cd)) (fun w' => w'.cell? ⟨w5.heap.size, 0, none⟩ = some (Value.slice A2 es.length c2)) 2 w7.drew := ⟨(BA7.out.ext SD).cell 0, (BB7.out.ext SD).cell 0⟩
      rcases (by omega : y2 = 0 ∨ y2 = 1 ∨ 2 ≤ y2) with rfl | rfl | hy2
      · have r1 : _ = some (Value.slice none 0 0) := BR17.out.cell 0
        have r1f := BR17.out.free 0
        have r2 : _ = some (Value.slice none 0 0) := BR27.out.cell 0
        have r2f := BR27.out.free 0
        have HAC : lv2 (fun w' => w'.cell? ⟨w2.heap.size, 0, none⟩ = some (Value.slice Ad ps.length cd)) (fun w' => w'.cell? ⟨w5.heap.size, 0, none⟩ = some (Value.slice A2 es.length c2)) 2 w7.drew := HAB
        have PF := Lib.hid (pair_fin (u1 := Value.slice A2 es.length c2) (u2 := Value.slice Ad ps.length cd) HC7.out HG7.out KB7.out KA7.out BR17.out BR27.out hbw hplt)
        go_wp2_with fail
        refine wp_region_C (C := fun j => lv2 (fun w' => w'.cell? ⟨w2.heap.size, 0, none⟩ = some (Value.slice Ad ps.length cd)) (fun w' => w'.cell? ⟨w5.heap.size, 0, none⟩ = some (Value.slice A2 es.length c2)) (([2, 3, 3, 0] : List Nat).getD j 0)) (by kernel_rfl) ?_
        refine wpAnyC_take 2 (i := 0) (v := ?_) (lv2_mono _ _) rfl (by kernel_rfl) (by kernel_rfl) (by kernel_rfl) (by kernel_rfl) (by kernel_rfl) (fun _ _ _ h => h) HAC (Or.inl ⟨by rfl, ?_⟩) ?_
        rotate_left
        · (intro w hSw; have hfact : w.cell? ⟨w5.heap.size, 0, none⟩ = some (Value.slice A2 es.length c2) := hSw.2; clear hSw; go_simp; try with_reducible rfl)
        try simp only [Act.put, List.setIfInBounds_toArray, List.set_cons_zero, List.set_cons_succ]
        refine wpAnyC_take 3 (i := 1) (v := ?_) (lv2_mono _ _) rfl (by kernel_rfl) (by kernel_rfl) (by kernel_rfl) (by kernel_rfl) (by kernel_rfl) (fun _ _ _ h => h) HAC (Or.inl ⟨by rfl, ?_⟩) ?_
        rotate_left
        · (intro w hSw; have hfact : w.cell? ⟨w2.heap.size, 0, none⟩ = some (Value.slice Ad ps.length cd) := hSw.1; clear hSw; go_simp; try with_reducible rfl)
        try simp only [Act.put, List.setIfInBounds_toArray, List.set_cons_zero, List.set_cons_succ]
        refine wpAnyC_one (i := 2) (by kernel_rfl) rfl (fun K hK => ?_)
        go_simp
        refine Shut.out hK _ _ ⟨((BA7.out.other (g' := w.heap.size) (by omega) 0 (Value.slice A2 es.length c2)).ext (Ext_drew (Ext.refl _))).cell 0, ((BB7.out.other (g' := w.heap.size) (by omega) 0 (Value.slice A2 es.length c2)).ext (Ext_drew (Ext.refl _))).cell 0⟩ ?_
        try simp only [Act.put, List.setIfInBounds_toArray, List.set_cons_zero, List.set_cons_succ]
        refine wpAnyC_one (i := 3) (by kernel_rfl) rfl (fun K hK => ?_)
        go_simp
        refine Shut.out hK _ _ trivial ?_
        try simp only [Act.put, List.setIfInBounds_toArray, List.set_cons_zero, List.set_cons_succ]
        refine wpAnyC_done (by kernel_rfl) ?_ _
        have dE := Ext_drew (Ext.refl ((w7.setCell ⟨w.heap.size, 0, none⟩ (Value.slice A2 es.length c2)).setCell ⟨w.heap.size + 1, 0, none⟩ (Value.slice Ad ps.length cd)))
        obtain ⟨k1, k2, kc, kg, z1, z2⟩ := PF.out
        have F1 := Lib.hid (k1.same (Same.of_ext dE)); have F2 := Lib.hid (k2.same (Same.of_ext dE)); have F3 := Lib.hid (kc.ext dE); have F4 := Lib.hid (kg.trans (grown_ext dE _))
        clear PF HAC HAB r1 r1f r2 r2f k1 k2 kc kg dE
        go_wp2_with fail
        refine bodyPost_ret (v := .tuple #[.agg #[Value.slice A2 es.length c2], .agg #[Value.slice Ad ps.length cd]]) (by simp [results, Try.results19, go_sem, z1, z2]) rfl ?_
        first
          | exact ⟨_, _, es, (rulesOf ps), rfl, HSM2.out, HSM1.out, F1.out, F2.out, F3.out, F4.out⟩
          | exact ⟨_, _, rfl, es, (rulesOf ps), HSM2.out, HSM1.out, F1.out, F2.out, F3.out, F4.out⟩
          | exact ⟨_, _, ⟨rfl, rfl⟩, es, (rulesOf ps), HSM2.out, HSM1.out, F1.out, F2.out, F3.out, F4.out⟩
      · have HCD := Lib.hid (HC7.out.ext SD)
        have KAD := Lib.hid (KA7.out.same (Same.of_ext SD))
        have BAD := Lib.hid (BA7.out.ext SD)
        have BR1D := Lib.hid (BR17.out.ext SD)
        have BR2D := Lib.hid (BR27.out.ext SD)
        have HGD := Lib.hid (HG7.out.trans (grown_ext SD _))
        have hlD : w.heap.size + 2 ≤ w7.drew.heap.size := by have := BAD.out.lt; omega
        have hp8 : ∀ k, (some p : Option Nat) = some k → k < w.heap.size + 2 ∨ w7.drew.heap.size ≤ k := fun k hk => by injection hk with hk; omega
        have HAC : lv2 (fun w' => w'.cell? ⟨w2.heap.size, 0, none⟩ = some (Value.slice Ad ps.length cd)) (fun _ => True) 2 w7.drew := ⟨BAD.out.cell 0, trivial⟩
        go_wp2_with fail
        refine wp_region_C (C := fun j => lv2 (fun w' => w'.cell? ⟨w2.heap.size, 0, none⟩ = some (Value.slice Ad ps.length cd)) (fun _ => True) (([1, 0, 2, 0, 0] : List Nat).getD j 0)) (by kernel_rfl) ?_
        refine wpAnyC_take 0 (i := 1) (v := ?_) (lv2_mono _ _) rfl (by kernel_rfl) (by kernel_rfl) (by kernel_rfl) (by kernel_rfl) (by kernel_rfl) (fun _ _ _ h => h) trivial (Or.inl ⟨by rfl, ?_⟩) ?_
        rotate_left
        · (intro w hSw; clear hSw; go_simp; try with_reducible rfl)
        try simp only [Act.put, List.setIfInBounds_toArray, List.set_cons_zero, List.set_cons_succ]
        refine wpAnyC_take 1 (i := 0) (v := ?_) (lv2_mono _ _) rfl (by kernel_rfl) (by kernel_rfl) (by kernel_rfl) (by kernel_rfl) (by kernel_rfl) (fun _ _ _ h => h) (And.left HAC) (Or.inl ⟨by rfl, ?_⟩) ?_
        rotate_left
        · (intro w hSw; have hfact : w.cell? ⟨w2.heap.size, 0, none⟩ = some (Value.slice Ad ps.length cd) := hSw; clear hSw; go_simp; try with_reducible rfl)
        try simp only [Act.put, List.setIfInBounds_toArray, List.set_cons_zero, List.set_cons_succ]
        refine wpAnyC_one (i := 2) (by kernel_rfl) rfl (fun K hK => ?_)
        go_simp
        go_at_call 40
        refine (CY.out _ HCD.out).mono ?_
        rintro _ w8 ⟨v3, ps3, rfl, hV3, hp63, hC8, hg8⟩
        obtain ⟨A3, c3, hv3⟩ := hV3.own.shape
        subst hv3
        have HSM3 := Lib.hid hV3.small
        have KC8 := Lib.hid (hV3.own.keepD (n0 := w.heap.size + 2) hV3.small (fun u hu b hb => by have := hV3.new u hu b hb; omega))
        have KA8 := Lib.hid (KAD.out.same (Same.of_grown hg8 hp8))
        have BA8 := Lib.hid (BAD.out.moved hg8 (some_ne (by omega)))
        have BR18 := Lib.hid (BR1D.out.moved hg8 (some_ne (by omega)))
        have BR28 := Lib.hid (BR2D.out.moved hg8 (some_ne (by omega)))
        have HG8 := Lib.hid (HGD.out.trans hg8)
        have HC8 := Lib.hid hC8
        have r1 : w8.cell? ⟨w.heap.size, 0, none⟩ = some (Value.slice none 0 0) := BR18.out.cell 0
        have r1f := BR18.out.free 0
        have r2 : w8.cell? ⟨w.heap.size + 1, 0, none⟩ = some (Value.slice none 0 0) := BR28.out.cell 0
        have r2f := BR28.out.free 0
        clear hV3 hC8 hg8 hp63
        refine Shut.out hK _ _ ⟨BA8.out.cell 0, trivial⟩ ?_
        try simp only [Act.put, List.setIfInBounds_toArray, List.set_cons_zero, List.set_cons_succ]
        refine wpAnyC_one (i := 3) (by kernel_rfl) rfl (fun K hK => ?_)
        go_simp
        refine Shut.out hK _ _ trivial ?_
        try simp only [Act.put, List.setIfInBounds_toArray, List.set_cons_zero, List.set_cons_succ]
        refine wpAnyC_one (i := 4) (by kernel_rfl) rfl (fun K hK => ?_)
        go_simp
        refine Shut.out hK _ _ trivial ?_
        try simp only [Act.put, List.setIfInBounds_toArray, List.set_cons_zero, List.set_cons_succ]
        refine wpAnyC_done (by kernel_rfl) ?_ _
        have PF := Lib.hid (pair_fin (u1 := Value.slice Ad ps.length cd) (u2 := Value.slice A3 ps3.length c3) HC8.out HG8.out KA8.out KC8.out BR18.out BR28.out hbw hplt)
        obtain ⟨k1, k2, kc, kg, z1, z2⟩ := PF.out
        have F1 := Lib.hid k1; have F2 := Lib.hid k2; have F3 := Lib.hid kc; have F4 := Lib.hid kg
        clear PF HAC HAB r1 r1f r2 r2f k1 k2 kc kg hp8
        go_wp2_with fail
        refine bodyPost_ret (v := .tuple #[.agg #[Value.slice Ad ps.length cd], .agg #[Value.slice A3 ps3.length c3]]) (by simp [results, Try.results19, go_sem, z1, z2]) rfl ?_
        first
          | exact ⟨_, _, (rulesOf ps), (rulesOf ps3), rfl, HSM1.out, HSM3.out, F1.out, F2.out, F3.out, F4.out⟩
          | exact ⟨_, _, rfl, (rulesOf ps), (rulesOf ps3), HSM1.out, HSM3.out, F1.out, F2.out, F3.out, F4.out⟩
          | exact ⟨_, _, ⟨rfl, rfl⟩, (rulesOf ps), (rulesOf ps3), HSM1.out, HSM3.out, F1.out, F2.out, F3.out, F4.out⟩
      · have r1 : _ = some (Value.slice none 0 0) := BR17.out.cell 0
        have r1f := BR17.out.free 0
        have r2 : _ = some (Value.slice none 0 0) := BR27.out.cell 0
        have r2f := BR27.out.free 0
        have HAC : lv2 (fun w' => w'.cell? ⟨w5.heap.size, 0, none⟩ = some (Value.slice A2 es.length c2)) (fun w' => w'.cell? ⟨w2.heap.size, 0, none⟩ = some (Value.slice Ad ps.length cd)) 2 w7.drew := And.symm HAB
        have PF := Lib.hid (pair_fin (u1 := Value.slice Ad ps.length cd) (u2 := Value.slice A2 es.length c2) HC7.out HG7.out KA7.out KB7.out BR17.out BR27.out hbw hplt)
        go_wp2_with fail
        refine wp_region_C (C := fun j => lv2 (fun w' => w'.cell? ⟨w5.heap.size, 0, none⟩ = some (Value.slice A2 es.length c2)) (fun w' => w'.cell? ⟨w2.heap.size, 0, none⟩ = some (Value.slice Ad ps.length cd)) (([2, 3, 3, 0] : List Nat).getD j 0)) (by kernel_rfl) ?_
        refine wpAnyC_take 2 (i := 0) (v := ?_) (lv2_mono _ _) rfl (by kernel_rfl) (by kernel_rfl) (by kernel_rfl) (by kernel_rfl) (by kernel_rfl) (fun _ _ _ h => h) HAC (Or.inl ⟨by rfl, ?_⟩) ?_
        rotate_left
        · (intro w hSw; have hfact : w.cell? ⟨w2.heap.size, 0, none⟩ = some (Value.slice Ad ps.length cd) := hSw.2; clear hSw; go_simp; try with_reducible rfl)
        try simp only [Act.put, List.setIfInBounds_toArray, List.set_cons_zero, List.set_cons_succ]
        refine wpAnyC_take 3 (i := 1) (v := ?_) (lv2_mono _ _) rfl (by kernel_rfl) (by kernel_rfl) (by kernel_rfl) (by kernel_rfl) (by kernel_rfl) (fun _ _ _ h => h) HAC (Or.inl ⟨by rfl, ?_⟩) ?_
        rotate_left
        · (intro w hSw; have hfact : w.cell? ⟨w5.heap.size, 0, none⟩ = some (Value.slice A2 es.length c2) := hSw.1; clear hSw; go_simp; try with_reducible rfl)
        try simp only [Act.put, List.setIfInBounds_toArray, List.set_cons_zero, List.set_cons_succ]
        refine wpAnyC_one (i := 2) (by kernel_rfl) rfl (fun K hK => ?_)
        go_simp
        refine Shut.out hK _ _ ⟨((BB7.out.other (g' := w.heap.size) (by omega) 0 (Value.slice Ad ps.length cd)).ext (Ext_drew (Ext.refl _))).cell 0, ((BA7.out.other (g' := w.heap.size) (by omega) 0 (Value.slice Ad ps.length cd)).ext (Ext_drew (Ext.refl _))).cell 0⟩ ?_
        try simp only [Act.put, List.setIfInBounds_toArray, List.set_cons_zero, List.set_cons_succ]
        refine wpAnyC_one (i := 3) (by kernel_rfl) rfl (fun K hK => ?_)
        go_simp
        refine Shut.out hK _ _ trivial ?_
        try simp only [Act.put, List.setIfInBounds_toArray, List.set_cons_zero, List.set_cons_succ]
        refine wpAnyC_done (by kernel_rfl) ?_ _
        have dE := Ext_drew (Ext.refl ((w7.setCell ⟨w.heap.size, 0, none⟩ (Value.slice Ad ps.length cd)).setCell ⟨w.heap.size + 1, 0, none⟩ (Value.slice A2 es.length c2)))
        obtain ⟨k1, k2, kc, kg, z1, z2⟩ := PF.out
        have F1 := Lib.hid (k1.same (Same.of_ext dE)); have F2 := Lib.hid (k2.same (Same.of_ext dE)); have F3 := Lib.hid (kc.ext dE); have F4 := Lib.hid (kg.trans (grown_ext dE _))
        clear PF HAC HAB r1 r1f r2 r2f k1 k2 kc kg dE
        go_wp2_with fail
        refine bodyPost_ret (v := .tuple #[.agg #[Value.slice Ad ps.length cd], .agg #[Value.slice A2 es.length c2]]) (by simp [results, Try.results19, go_sem, z1, z2]) rfl ?_
        first
          | exact ⟨_, _, (rulesOf ps), es, rfl, HSM1.out, HSM2.out, F1.out, F2.out, F3.out, F4.out⟩
          | exact ⟨_, _, rfl, (rulesOf ps), es, HSM1.out, HSM2.out, F1.out, F2.out, F3.out, F4.out⟩
          | exact ⟨_, _, ⟨rfl, rfl⟩, (rulesOf ps), es, HSM1.out, HSM2.out, F1.out, F2.out, F3.out, F4.out⟩
end Go.Proofs.Ytophjmphjdhjoaa

/- Draws of descriptions: DrawFindRule, DrawRenameRule. (Printed by gen/gx26.py.) -/
namespace Go.Proofs.Ytophjmphjdhjoaa
open Go.RowKit Go.Sort

theorem Cur.lower' {wb0 wb w : World} {p : Nat} {A : Option Addr} {l : List UInt8} {c : Nat} (h : Cur wb w p A l c) (e : Ext wb0 wb) : Cur wb0 w p A l c := ⟨Nat.le_trans e.size h.1, e.trans h.2.1, h.2.2⟩
theorem SmD.len {ps : List RV} (h : SmD (rulesOf ps)) : ps.length ≤ 24 := by have := h.1; simpa [rulesOf] using this
/-- the names in a row of rules -/
theorem OwnD.nmAt {w0 w : World} {b n c : Nat} {ps : List RV} (h : OwnD w0 w (.slice (some ⟨b, 0, none⟩) n c) ps) : ∀ x (hx : x < ps.length), w.cell? ⟨b, x * 8, none⟩ = some (.string ps[x].r.nm) := by
  intro x hx
  have hn : n = ps.length := by obtain ⟨_, _, hh⟩ := h.shape; injection hh
  subst hn
  have h0 := h.row.cellAt (x * 8 + 0) (by omega)
  rw [Nat.add_zero] at h0
  rw [h0]
  have := cells_get ps x 0 hx (by omega)
  rw [Nat.add_zero] at this
  rw [this]; simp [RV.cells]
set_option maxRecDepth 100000 in
set_option maxHeartbeats 8000000 in
theorem drawFind_c (A : Option Addr) (l : List UInt8) (c : Nat) (w : World) (hA : Bs w A l c) :
    Calls Try.prog 25 #[.slice A l.length c] w fun e w' => ∃ v ps s, e = .returned (.tuple #[vdesc v, .string s]) ∧ AnyV w w w' v ps ∧ ps.length ≤ 6 ∧ s.size ≤ 60 ∧ Ext w w' := by
  have e0 := Ext_alloc (.cells #[.slice none 0 0] 26) (Ext.refl w)
  have HR := Lib.hid (Box.new w #[.slice none 0 0] 26)
  go_enter Try.func25, Try.ntmps25
  go_wp2_with fail
  refine (l1New_c A l c _ (hA.ext e0)).mono ?_; rintro _ w1 ⟨p, rfl, hC1⟩
  have hR1 := HR.out.ext hC1.2.1
  have hpR : p ≠ w.heap.size := by have := hC1.1; simp at this; omega
  have e1 : Ext w w1 := e0.trans hC1.2.1
  have hC1 := hC1.lower' e0
  have CAny := Lib.hid (l4Any_c w w1 p A l c hA hC1)
  have CBe := Lib.hid (fun n w' h hn => l1Below_c n w w' p A l c hA h hn)
  have COn := Lib.hid (fun n w' h hn => l1Once_c n w w' p A l c hA h hn)
  unfold vdesc at CAny
  go_wp2_with fail
  refine CAny.out.mono ?_; rintro _ w2 ⟨v, ps, rfl, hV, hps6, hC2, hg2⟩
  obtain ⟨Ad, cd, hv⟩ := hV.own.shape
  subst hv
  have hR2 := hR1.moved hg2 (some_ne hpR)
  have hRl := hR1.lt; have hpl := hC1.lt; have hpl2 := hC2.lt; have hRl2 := hR2.lt
  have x2 := Ext_alloc (.cells #[.slice Ad ps.length cd] 26) (Ext.refl w2)
  have S2 : Hid (DS w w (w2.alloc (.cells #[.slice Ad ps.length cd] 26)) p A l c w2.heap.size (.slice Ad ps.length cd) ps w.heap.size) :=
    ⟨Box.new w2 _ _, hV.own.ext x2, fun u hu b hb => by
      have h1 := hV.new u hu b hb
      have h2 := (hV.own.block u hu b hb).2
      exact ⟨by omega, by omega, by omega, by omega⟩, hC2.ext x2, ((grown_ext e1 _).trans hg2).trans (grown_ext x2 _), by omega, by omega, by omega, hR2.ext x2, by omega, hpR⟩
  have HSM := Lib.hid hV.small
  have cd0 : _ = some (Value.slice Ad ps.length cd) := S2.out.box.cell 0
  have hwp : w.heap.size ≤ p := hC1.1
  clear hV hC2 hg2 hR2 hR1 HR e0 e1 x2 CAny hC1
  have bgt : decide ((0 : Int) < (ps.length : Int)) = decide (0 < ps.length) := by congr 1; apply propext; omega
  by_cases hp0 : 0 < ps.length
  · obtain ⟨b, hAd⟩ : ∃ b, Ad = some ⟨b, 0, none⟩ := by
      rcases S2.out.own.row.2 with ⟨_, h0⟩ | ⟨b, cap, cur, hv, _⟩
      · omega
      · injection hv with q1 _ _; exact ⟨b, q1⟩
    subst hAd
    have d0 : decide ((0 : Int) < (ps.length : Int)) = true := decide_eq_true (by omega)
    have d1 : decide (0 < ps.length) = true := decide_eq_true hp0
    clear bgt
    go_wp2_with fail
    refine (COn.out 2 _ S2.out.cur (by omega)).mono ?_; rintro _ w3 ⟨z, rfl, hC3, hg3⟩
    have S3 := Lib.hid (S2.out.moved hC3 hg3)
    have cd3 : _ = some (Value.slice (some ⟨b, 0, none⟩) ps.length cd) := S3.out.box.cell 0
    clear hC3 hg3 S2 cd0
    cases z
    · go_wp2_with fail
      have SX := Lib.hid (S3.out.ext (Ext_drew (Ext.refl w3)))
      have HAB : lv2 (fun w' => w'.cell? ⟨w2.heap.size, 0, none⟩ = some (Value.slice (some ⟨b, 0, none⟩) ps.length cd)) (fun _ => True) 2 w3.drew := ⟨SX.out.box.cell 0, trivial⟩
      refine wp_region_C (C := fun j => lv2 (fun w' => w'.cell? ⟨w2.heap.size, 0, none⟩ = some (Value.slice (some ⟨b, 0, none⟩) ps.length cd)) (fun _ => True) (([1, 0, 2, 2, 0, 0] : List Nat).getD j 0)) (by kernel_rfl) ?_
      refine wpAnyC_take 0 (i := 1) (v := ?_) (lv2_mono _ _) rfl (by kernel_rfl) (by kernel_rfl) (by kernel_rfl) (by kernel_rfl) (by kernel_rfl) (fun _ _ _ h => h) trivial (Or.inl ⟨by rfl, ?_⟩) ?_
      rotate_left
      · (intro w hSw; clear hSw; go_simp; try with_reducible rfl)
      try simp only [Act.put, List.setIfInBounds_toArray, List.set_cons_zero, List.set_cons_succ]
      refine wpAnyC_take 1 (i := 0) (v := ?_) (lv2_mono _ _) rfl (by kernel_rfl) (by kernel_rfl) (by kernel_rfl) (by kernel_rfl) (by kernel_rfl) (fun _ _ _ h => h) (And.left HAB) (Or.inl ⟨by rfl, ?_⟩) ?_
      rotate_left
      · (intro w hSw; have hfact : w.cell? ⟨w2.heap.size, 0, none⟩ = some (Value.slice (some ⟨b, 0, none⟩) ps.length cd) := hSw; clear hSw; go_simp; try with_reducible rfl)
      try simp only [Act.put, List.setIfInBounds_toArray, List.set_cons_zero, List.set_cons_succ]
      refine wpAnyC_one (i := 2) (by kernel_rfl) rfl (fun K hK => ?_)
      go_simp
      have SL := Lib.hid (SX.out.ext (Ext_alloc (.cells #[.string ⟨#[]⟩, .string ⟨#[97, 48]⟩, .string ⟨#[105, 116, 101, 109, 49]⟩, .string ⟨#[110, 111, 110, 101]⟩] 9) (Ext.refl _)))
      refine Shut.out hK _ _ ⟨SL.out.box.cell 0, trivial⟩ ?_
      try simp only [Act.put, List.setIfInBounds_toArray, List.set_cons_zero, List.set_cons_succ]
      refine wpAnyC_one (i := 3) (by kernel_rfl) rfl (fun K hK => ?_)
      go_simp
      go_at_call 26
      refine (l1StrBox_c [⟨#[]⟩, ⟨#[97, 48]⟩, ⟨#[105, 116, 101, 109, 49]⟩, ⟨#[110, 111, 110, 101]⟩] (by simp) (by simp) 4 rfl #[.string ⟨#[]⟩, .string ⟨#[97, 48]⟩, .string ⟨#[105, 116, 101, 109, 49]⟩, .string ⟨#[110, 111, 110, 101]⟩] rfl w _ p A l c hA _ SL.out.cur (by first | (refine Box.newd' _ _ _ _ ?_; first | rfl | (simp; done)) | (refine Box.new' _ _ _ _ ?_; first | rfl | (simp; done)))).mono ?_
      rintro _ w5 ⟨s, hs, rfl, hC5, hg5⟩
      have S5 := Lib.hid (DS.moved SL.out hC5 hg5)
      have hs60 : Hid (s.size ≤ 60) := by show _ ≤ _; simp only [List.mem_cons, List.not_mem_nil, or_false] at hs; rcases hs with rfl | rfl | rfl | rfl <;> decide
      clear hs hC5 hg5
      have cr5 : _ = some (Value.slice none 0 0) := S5.out.res.cell 0
      have yr5 := S5.out.res.free 0
      refine Shut.out hK _ _ ⟨S5.out.box.cell 0, trivial⟩ ?_
      try simp only [Act.put, List.setIfInBounds_toArray, List.set_cons_zero, List.set_cons_succ]
      refine wpAnyC_one (i := 4) (by kernel_rfl) rfl (fun K hK => ?_)
      go_simp
      refine Shut.out hK _ _ trivial ?_
      try simp only [Act.put, List.setIfInBounds_toArray, List.set_cons_zero, List.set_cons_succ]
      refine wpAnyC_one (i := 5) (by kernel_rfl) rfl (fun K hK => ?_)
      go_simp
      refine Shut.out hK _ _ trivial ?_
      try simp only [Act.put, List.setIfInBounds_toArray, List.set_cons_zero, List.set_cons_succ]
      refine wpAnyC_done (by kernel_rfl) ?_ _
      obtain ⟨ps0, hps0⟩ : ∃ ps0, ps0 = ps := ⟨_, rfl⟩
      have OUT : Hid (OwnD w (w5.setCell ⟨w.heap.size, 0, none⟩ (Value.slice (some ⟨b, 0, none⟩) ps.length cd)) (Value.slice (some ⟨b, 0, none⟩) ps.length cd) ps0 ∧ (∀ u ∈ (Value.slice (some ⟨b, 0, none⟩) ps.length cd) :: ps0.flatMap RV.vals, ∀ b, u.ownBlock = some b → w.heap.size ≤ b) ∧ Cur w (w5.setCell ⟨w.heap.size, 0, none⟩ (Value.slice (some ⟨b, 0, none⟩) ps.length cd)) p A l c ∧ w.grownBy (w5.setCell ⟨w.heap.size, 0, none⟩ (Value.slice (some ⟨b, 0, none⟩) ps.length cd)) (some p)) := by rw [hps0]; exact DS.finish S5.out (Nat.le_refl _)
      have z9 : (w5.setCell ⟨w.heap.size, 0, none⟩ (Value.slice (some ⟨b, 0, none⟩) ps.length cd)).cell? ⟨w.heap.size, 0, none⟩ = some (Value.slice (some ⟨b, 0, none⟩) ps.length cd) := World.cell?_setCell_same _ _ _ cr5
      rw [← hps0] at HSM
      have HP6 : Hid (ps0.length ≤ 6) := by show _ ≤ _; rw [hps0]; first | exact hps6 | simp
      clear SL S5 SX HAB S3 cd3 cr5 yr5
      have HEX : Hid (Ext w (w5.setCell ⟨w.heap.size, 0, none⟩ (Value.slice (some ⟨b, 0, none⟩) ps.length cd))) := Ext.grown (Ext.refl w) OUT.out.2.2.2 (fun k hk => by injection hk with hk; omega)
      go_wp2_with fail
      refine bodyPost_ret (v := .tuple #[vdesc (Value.slice (some ⟨b, 0, none⟩) ps.length cd), .string s]) (by simp [results, Try.results25, go_sem, z9, vdesc]) rfl ?_
      first
        | exact ⟨_, ps0, s, rfl, ⟨HSM.out, OUT.out.1, OUT.out.2.1⟩, HP6.out, hs60.out, HEX.out⟩
        | exact ⟨_, rfl, ps0, s, ⟨HSM.out, OUT.out.1, OUT.out.2.1⟩, HP6.out, hs60.out, HEX.out⟩
        | exact ⟨_, ps0, ⟨_, rfl, ⟨HSM.out, OUT.out.1, OUT.out.2.1⟩, HP6.out, hs60.out, HEX.out⟩⟩
    · have SX := Lib.hid (S3.out.ext (Ext_drew (Ext.refl w3)))
      have HNM : Hid (∀ w', DS w w w' p A l c w2.heap.size (.slice (some ⟨b, 0, none⟩) ps.length cd) ps w.heap.size → ∀ x (hx : x < ps.length), w'.cell? ⟨b, x * 8, none⟩ = some (.string ps[x].r.nm)) := fun w' h => h.own.nmAt
      go_wp2_with fail
      have HAB : lv2 (fun w' => w'.cell? ⟨w2.heap.size, 0, none⟩ = some (Value.slice (some ⟨b, 0, none⟩) ps.length cd)) (fun w' => ∀ x (hx : x < ps.length), w'.cell? ⟨b, x * 8, none⟩ = some (.string ps[x].r.nm)) 2 w3.drew := ⟨SX.out.box.cell 0, HNM.out _ SX.out⟩
      refine wp_region_C (C := fun j => lv2 (fun w' => w'.cell? ⟨w2.heap.size, 0, none⟩ = some (Value.slice (some ⟨b, 0, none⟩) ps.length cd)) (fun w' => ∀ x (hx : x < ps.length), w'.cell? ⟨b, x * 8, none⟩ = some (.string ps[x].r.nm)) (([1, 0, 1, 0, 0, 1, 0, 2, 2, 2, 2, 2, 0] : List Nat).getD j 0)) (by kernel_rfl) ?_
      refine wpAnyC_take 0 (i := 1) (v := ?_) (lv2_mono _ _) rfl (by kernel_rfl) (by kernel_rfl) (by kernel_rfl) (by kernel_rfl) (by kernel_rfl) (fun _ _ _ h => h) trivial (Or.inl ⟨by rfl, ?_⟩) ?_
      rotate_left
      · (intro w hSw; clear hSw; go_simp; try with_reducible rfl)
      try simp only [Act.put, List.setIfInBounds_toArray, List.set_cons_zero, List.set_cons_succ]
      refine wpAnyC_take 0 (i := 3) (v := ?_) (lv2_mono _ _) rfl (by kernel_rfl) (by kernel_rfl) (by kernel_rfl) (by kernel_rfl) (by kernel_rfl) (fun _ _ _ h => h) trivial (Or.inl ⟨by rfl, ?_⟩) ?_
      rotate_left
      · (intro w hSw; clear hSw; go_simp; try with_reducible rfl)
      try simp only [Act.put, List.setIfInBounds_toArray, List.set_cons_zero, List.set_cons_succ]
      refine wpAnyC_take 0 (i := 4) (v := ?_) (lv2_mono _ _) rfl (by kernel_rfl) (by kernel_rfl) (by kernel_rfl) (by kernel_rfl) (by kernel_rfl) (fun _ _ _ h => h) trivial (Or.inl ⟨by rfl, ?_⟩) ?_
      rotate_left
      · (intro w hSw; clear hSw; go_simp; try with_reducible rfl)
      try simp only [Act.put, List.setIfInBounds_toArray, List.set_cons_zero, List.set_cons_succ]
      refine wpAnyC_take 1 (i := 5) (v := ?_) (lv2_mono _ _) rfl (by kernel_rfl) (by kernel_rfl) (by kernel_rfl) (by kernel_rfl) (by kernel_rfl) (fun _ _ _ h => h) (And.left HAB) (Or.inl ⟨by rfl, ?_⟩) ?_
      rotate_left
      · (intro w hSw; have hfact : w.cell? ⟨w2.heap.size, 0, none⟩ = some (Value.slice (some ⟨b, 0, none⟩) ps.length cd) := hSw; clear hSw; go_simp; try with_reducible rfl)
      try simp only [Act.put, List.setIfInBounds_toArray, List.set_cons_zero, List.set_cons_succ]
      refine wpAnyC_take 0 (i := 6) (v := ?_) (lv2_mono _ _) rfl (by kernel_rfl) (by kernel_rfl) (by kernel_rfl) (by kernel_rfl) (by kernel_rfl) (fun _ _ _ h => h) trivial (Or.inl ⟨by rfl, ?_⟩) ?_
      rotate_left
      · (intro w hSw; clear hSw; go_simp; try with_reducible rfl)
      try simp only [Act.put, List.setIfInBounds_toArray, List.set_cons_zero, List.set_cons_succ]
      refine wpAnyC_take 1 (i := 0) (v := ?_) (lv2_mono _ _) rfl (by kernel_rfl) (by kernel_rfl) (by kernel_rfl) (by kernel_rfl) (by kernel_rfl) (fun _ _ _ h => h) (And.left HAB) (Or.inl ⟨by rfl, ?_⟩) ?_
      rotate_left
      · (intro w hSw; have hfact : w.cell? ⟨w2.heap.size, 0, none⟩ = some (Value.slice (some ⟨b, 0, none⟩) ps.length cd) := hSw; clear hSw; go_simp; try with_reducible rfl)
      try simp only [Act.put, List.setIfInBounds_toArray, List.set_cons_zero, List.set_cons_succ]
      refine wpAnyC_take 1 (i := 2) (v := ?_) (lv2_mono _ _) rfl (by kernel_rfl) (by kernel_rfl) (by kernel_rfl) (by kernel_rfl) (by kernel_rfl) (fun _ _ _ h => h) (And.left HAB) (Or.inl ⟨by rfl, ?_⟩) ?_
      rotate_left
      · (intro w hSw; have hfact : w.cell? ⟨w2.heap.size, 0, none⟩ = some (Value.slice (some ⟨b, 0, none⟩) ps.length cd) := hSw; clear hSw; go_simp; try with_reducible rfl)
      try simp only [Act.put, List.setIfInBounds_toArray, List.set_cons_zero, List.set_cons_succ]
      refine wpAnyC_one (i := 7) (by kernel_rfl) rfl (fun K hK => ?_)
      go_simp
      go_at_call 20
      refine (CBe.out ps.length _ SX.out.cur (by omega)).mono ?_
      rintro _ w5 ⟨x, hx0, rfl, hC5, hg5⟩
      have hx : x < ps.length := by unfold below at hx0; rw [if_neg (by omega)] at hx0; omega
      have S5 := Lib.hid (DS.moved SX.out hC5 hg5)
      clear hx0 hC5 hg5
      have cr5 : _ = some (Value.slice none 0 0) := S5.out.res.cell 0
      have yr5 := S5.out.res.free 0
      have b0 : (0 : Int) ≤ (x : Int) := by omega
      have b1 : (x : Int) < (ps.length : Int) := by omega
      have L5 : lv2 (fun w' => w'.cell? ⟨w2.heap.size, 0, none⟩ = some (Value.slice (some ⟨b, 0, none⟩) ps.length cd)) (fun w' => ∀ x (hx : x < ps.length), w'.cell? ⟨b, x * 8, none⟩ = some (.string ps[x].r.nm)) 2 w5 := ⟨S5.out.box.cell 0, HNM.out _ S5.out⟩
      refine Shut.out hK _ _ L5 ?_
      try simp only [Act.put, List.setIfInBounds_toArray, List.set_cons_zero, List.set_cons_succ]
      refine wpAnyC_take 2 (i := 8) (v := ?_) (lv2_mono _ _) rfl (by kernel_rfl) (by kernel_rfl) (by kernel_rfl) (by kernel_rfl) (by kernel_rfl) (fun _ _ _ h => h) (L5) (Or.inl ⟨by rfl, ?_⟩) ?_
      rotate_left
      · (intro w hSw; clear hSw; go_simp; try with_reducible rfl)
      try simp only [Act.put, List.setIfInBounds_toArray, List.set_cons_zero, List.set_cons_succ]
      refine wpAnyC_take 2 (i := 9) (v := ?_) (lv2_mono _ _) rfl (by kernel_rfl) (by kernel_rfl) (by kernel_rfl) (by kernel_rfl) (by kernel_rfl) (fun _ _ _ h => h) (L5) (Or.inl ⟨by rfl, ?_⟩) ?_
      rotate_left
      · (intro w hSw; clear hSw; go_simp; try with_reducible rfl)
      try simp only [Act.put, List.setIfInBounds_toArray, List.set_cons_zero, List.set_cons_succ]
      refine wpAnyC_take 2 (i := 10) (v := ?_) (lv2_mono _ _) rfl (by kernel_rfl) (by kernel_rfl) (by kernel_rfl) (by kernel_rfl) (by kernel_rfl) (fun _ _ _ h => h) (L5) (Or.inl ⟨by rfl, ?_⟩) ?_
      rotate_left
      · (intro w hSw; have hfact := hSw.2 x hx; clear hSw; go_simp; try with_reducible rfl)
      try simp only [Act.put, List.setIfInBounds_toArray, List.set_cons_zero, List.set_cons_succ]
      refine wpAnyC_one (i := 11) (by kernel_rfl) rfl (fun K hK => ?_)
      go_simp
      have L6 : lv2 (fun w' => w'.cell? ⟨w2.heap.size, 0, none⟩ = some (Value.slice (some ⟨b, 0, none⟩) ps.length cd)) (fun w' => ∀ x (hx : x < ps.length), w'.cell? ⟨b, x * 8, none⟩ = some (.string ps[x].r.nm)) 2 (w5.setCell ⟨w.heap.size, 0, none⟩ (Value.slice (some ⟨b, 0, none⟩) ps.length cd)) := ⟨(S5.out.box.other S5.out.gR _ _).cell 0, fun y hy => by
        have hb := (S5.out.new _ (List.mem_cons_self ..) b rfl).2.2.2
        rw [World.cell?_setCell_other _ _ _ _ (fun hh => hb (by injection hh with h1 _ _; exact h1.symm))]
        exact HNM.out _ S5.out y hy⟩
      refine Shut.out hK _ _ L6 ?_
      try simp only [Act.put, List.setIfInBounds_toArray, List.set_cons_zero, List.set_cons_succ]
      refine wpAnyC_one (i := 12) (by kernel_rfl) rfl (fun K hK => ?_)
      go_simp
      refine Shut.out hK _ _ trivial ?_
      try simp only [Act.put, List.setIfInBounds_toArray, List.set_cons_zero, List.set_cons_succ]
      refine wpAnyC_done (by kernel_rfl) ?_ _
      have hs60 : Hid (ps[x].r.nm.size ≤ 60) := (HSM.out.2 _ (List.mem_map_of_mem (List.getElem_mem hx))).nm
      generalize ps[x].r.nm = s at *
      obtain ⟨ps0, hps0⟩ : ∃ ps0, ps0 = ps := ⟨_, rfl⟩
      have OUT : Hid (OwnD w (w5.setCell ⟨w.heap.size, 0, none⟩ (Value.slice (some ⟨b, 0, none⟩) ps.length cd)) (Value.slice (some ⟨b, 0, none⟩) ps.length cd) ps0 ∧ (∀ u ∈ (Value.slice (some ⟨b, 0, none⟩) ps.length cd) :: ps0.flatMap RV.vals, ∀ b, u.ownBlock = some b → w.heap.size ≤ b) ∧ Cur w (w5.setCell ⟨w.heap.size, 0, none⟩ (Value.slice (some ⟨b, 0, none⟩) ps.length cd)) p A l c ∧ w.grownBy (w5.setCell ⟨w.heap.size, 0, none⟩ (Value.slice (some ⟨b, 0, none⟩) ps.length cd)) (some p)) := by rw [hps0]; exact DS.finish S5.out (Nat.le_refl _)
      have z9 : (w5.setCell ⟨w.heap.size, 0, none⟩ (Value.slice (some ⟨b, 0, none⟩) ps.length cd)).cell? ⟨w.heap.size, 0, none⟩ = some (Value.slice (some ⟨b, 0, none⟩) ps.length cd) := World.cell?_setCell_same _ _ _ cr5
      rw [← hps0] at HSM
      have HP6 : Hid (ps0.length ≤ 6) := by show _ ≤ _; rw [hps0]; exact hps6
      clear S5 SX HAB S3 cd3 cr5 yr5 HNM L5 L6
      have HEX : Hid (Ext w (w5.setCell ⟨w.heap.size, 0, none⟩ (Value.slice (some ⟨b, 0, none⟩) ps.length cd))) := Ext.grown (Ext.refl w) OUT.out.2.2.2 (fun k hk => by injection hk with hk; omega)
      go_wp2_with fail
      refine bodyPost_ret (v := .tuple #[vdesc (Value.slice (some ⟨b, 0, none⟩) ps.length cd), .string s]) (by simp [results, Try.results25, go_sem, z9, vdesc]) rfl ?_
      first
        | exact ⟨_, ps0, s, rfl, ⟨HSM.out, OUT.out.1, OUT.out.2.1⟩, HP6.out, hs60.out, HEX.out⟩
        | exact ⟨_, rfl, ps0, s, ⟨HSM.out, OUT.out.1, OUT.out.2.1⟩, HP6.out, hs60.out, HEX.out⟩
        | exact ⟨_, ps0, ⟨_, rfl, ⟨HSM.out, OUT.out.1, OUT.out.2.1⟩, HP6.out, hs60.out, HEX.out⟩⟩
  · obtain rfl : ps = [] := List.eq_nil_of_length_eq_zero (by omega)
    have d0 : decide ((0 : Int) < 0) = false := by decide
    have S3 := S2
    have cd3 := cd0
    clear bgt
    go_wp2_with fail
    have SX := Lib.hid (S3.out.ext (Ext_drew (Ext.refl (w2.alloc (.cells #[.slice Ad 0 cd] 26)))))
    have HAB : lv2 (fun w' => w'.cell? ⟨w2.heap.size, 0, none⟩ = some (Value.slice Ad 0 cd)) (fun _ => True) 2 (w2.alloc (.cells #[.slice Ad 0 cd] 26)).drew := ⟨SX.out.box.cell 0, trivial⟩
    refine wp_region_C (C := fun j => lv2 (fun w' => w'.cell? ⟨w2.heap.size, 0, none⟩ = some (Value.slice Ad 0 cd)) (fun _ => True) (([1, 0, 2, 2, 0, 0] : List Nat).getD j 0)) (by kernel_rfl) ?_
    refine wpAnyC_take 0 (i := 1) (v := ?_) (lv2_mono _ _) rfl (by kernel_rfl) (by kernel_rfl) (by kernel_rfl) (by kernel_rfl) (by kernel_rfl) (fun _ _ _ h => h) trivial (Or.inl ⟨by rfl, ?_⟩) ?_
    rotate_left
    · (intro w hSw; clear hSw; go_simp; try with_reducible rfl)
    try simp only [Act.put, List.setIfInBounds_toArray, List.set_cons_zero, List.set_cons_succ]
    refine wpAnyC_take 1 (i := 0) (v := ?_) (lv2_mono _ _) rfl (by kernel_rfl) (by kernel_rfl) (by kernel_rfl) (by kernel_rfl) (by kernel_rfl) (fun _ _ _ h => h) (And.left HAB) (Or.inl ⟨by rfl, ?_⟩) ?_
    rotate_left
    · (intro w hSw; have hfact : w.cell? ⟨w2.heap.size, 0, none⟩ = some (Value.slice Ad 0 cd) := hSw; clear hSw; go_simp; try with_reducible rfl)
    try simp only [Act.put, List.setIfInBounds_toArray, List.set_cons_zero, List.set_cons_succ]
    refine wpAnyC_one (i := 2) (by kernel_rfl) rfl (fun K hK => ?_)
    go_simp
    have SL := Lib.hid (SX.out.ext (Ext_alloc (.cells #[.string ⟨#[]⟩, .string ⟨#[97, 48]⟩, .string ⟨#[105, 116, 101, 109, 49]⟩, .string ⟨#[110, 111, 110, 101]⟩] 9) (Ext.refl _)))
    refine Shut.out hK _ _ ⟨SL.out.box.cell 0, trivial⟩ ?_
    try simp only [Act.put, List.setIfInBounds_toArray, List.set_cons_zero, List.set_cons_succ]
    refine wpAnyC_one (i := 3) (by kernel_rfl) rfl (fun K hK => ?_)
    go_simp
    go_at_call 26
    refine (l1StrBox_c [⟨#[]⟩, ⟨#[97, 48]⟩, ⟨#[105, 116, 101, 109, 49]⟩, ⟨#[110, 111, 110, 101]⟩] (by simp) (by simp) 4 rfl #[.string ⟨#[]⟩, .string ⟨#[97, 48]⟩, .string ⟨#[105, 116, 101, 109, 49]⟩, .string ⟨#[110, 111, 110, 101]⟩] rfl w _ p A l c hA _ SL.out.cur (by first | (refine Box.newd' _ _ _ _ ?_; first | rfl | (simp; done)) | (refine Box.new' _ _ _ _ ?_; first | rfl | (simp; done)))).mono ?_
    rintro _ w5 ⟨s, hs, rfl, hC5, hg5⟩
    have S5 := Lib.hid (DS.moved SL.out hC5 hg5)
    have hs60 : Hid (s.size ≤ 60) := by show _ ≤ _; simp only [List.mem_cons, List.not_mem_nil, or_false] at hs; rcases hs with rfl | rfl | rfl | rfl <;> decide
    clear hs hC5 hg5
    have cr5 : _ = some (Value.slice none 0 0) := S5.out.res.cell 0
    have yr5 := S5.out.res.free 0
    refine Shut.out hK _ _ ⟨S5.out.box.cell 0, trivial⟩ ?_
    try simp only [Act.put, List.setIfInBounds_toArray, List.set_cons_zero, List.set_cons_succ]
    refine wpAnyC_one (i := 4) (by kernel_rfl) rfl (fun K hK => ?_)
    go_simp
    refine Shut.out hK _ _ trivial ?_
    try simp only [Act.put, List.setIfInBounds_toArray, List.set_cons_zero, List.set_cons_succ]
    refine wpAnyC_one (i := 5) (by kernel_rfl) rfl (fun K hK => ?_)
    go_simp
    refine Shut.out hK _ _ trivial ?_
    try simp only [Act.put, List.setIfInBounds_toArray, List.set_cons_zero, List.set_cons_succ]
    refine wpAnyC_done (by kernel_rfl) ?_ _
    obtain ⟨ps0, hps0⟩ : ∃ ps0, ps0 = [] := ⟨_, rfl⟩
    have OUT : Hid (OwnD w (w5.setCell ⟨w.heap.size, 0, none⟩ (Value.slice Ad 0 cd)) (Value.slice Ad 0 cd) ps0 ∧ (∀ u ∈ (Value.slice Ad 0 cd) :: ps0.flatMap RV.vals, ∀ b, u.ownBlock = some b → w.heap.size ≤ b) ∧ Cur w (w5.setCell ⟨w.heap.size, 0, none⟩ (Value.slice Ad 0 cd)) p A l c ∧ w.grownBy (w5.setCell ⟨w.heap.size, 0, none⟩ (Value.slice Ad 0 cd)) (some p)) := by rw [hps0]; exact DS.finish S5.out (Nat.le_refl _)
    have z9 : (w5.setCell ⟨w.heap.size, 0, none⟩ (Value.slice Ad 0 cd)).cell? ⟨w.heap.size, 0, none⟩ = some (Value.slice Ad 0 cd) := World.cell?_setCell_same _ _ _ cr5
    rw [← hps0] at HSM
    have HP6 : Hid (ps0.length ≤ 6) := by show _ ≤ _; rw [hps0]; first | exact hps6 | simp
    clear SL S5 SX HAB S3 cd3 cr5 yr5
    have HEX : Hid (Ext w (w5.setCell ⟨w.heap.size, 0, none⟩ (Value.slice Ad 0 cd))) := Ext.grown (Ext.refl w) OUT.out.2.2.2 (fun k hk => by injection hk with hk; omega)
    go_wp2_with fail
    refine bodyPost_ret (v := .tuple #[vdesc (Value.slice Ad 0 cd), .string s]) (by simp [results, Try.results25, go_sem, z9, vdesc]) rfl ?_
    first
      | exact ⟨_, ps0, s, rfl, ⟨HSM.out, OUT.out.1, OUT.out.2.1⟩, HP6.out, hs60.out, HEX.out⟩
      | exact ⟨_, rfl, ps0, s, ⟨HSM.out, OUT.out.1, OUT.out.2.1⟩, HP6.out, hs60.out, HEX.out⟩
      | exact ⟨_, ps0, ⟨_, rfl, ⟨HSM.out, OUT.out.1, OUT.out.2.1⟩, HP6.out, hs60.out, HEX.out⟩⟩
end Go.Proofs.Ytophjmphjdhjoaa

/- Draws of descriptions: DrawLostNames. (Printed by gen/gx31.py.) -/
namespace Go.Proofs.Ytophjmphjdhjoaa
open Go.RowKit Go.Sort

/-- the loop's world -/
structure LN (w w1 w2 wr : World) (p : Nat) (A : Option Addr) (l : List UInt8) (c : Nat) (v1 v2 : Value) (d1 d2 : List DRule) : Prop where
  ka : KeepD w1.heap.size wr v1 d1
  kb : KeepD w1.heap.size wr v2 d2
  ba : Box wr w2.heap.size #[v1] 26
  bb : Box wr (w2.heap.size + 1) #[v2] 26
  b1 : Box wr w.heap.size #[.slice none 0 0] 26
  b2 : Box wr (w.heap.size + 1) #[.slice none 0 0] 26
  cur : Cur w wr p A l c
  ext : Ext w wr
  hp : w.heap.size + 2 ≤ p ∧ p < w1.heap.size ∧ w1.heap.size ≤ w2.heap.size
theorem LN.moved {w w1 w2 wr w' : World} {p : Nat} {A : Option Addr} {l : List UInt8} {c : Nat} {v1 v2 : Value} {d1 d2 : List DRule} (h : LN w w1 w2 wr p A l c v1 v2 d1 d2) (hC : Cur w w' p A l c) (hg : wr.grownBy w' (some p)) : LN w w1 w2 w' p A l c v1 v2 d1 d2 := by
  have hp := h.hp
  have hs : Same w1.heap.size wr w' := Same.of_grown hg (fun k hk => by injection hk with hk; omega)
  exact ⟨h.ka.same hs, h.kb.same hs, h.ba.moved hg (some_ne (by omega)), h.bb.moved hg (some_ne (by omega)), h.b1.moved hg (some_ne (by omega)), h.b2.moved hg (some_ne (by omega)), hC, h.ext.grown hg (fun k hk => by injection hk with hk; omega), hp⟩
theorem lost_fin {w w1 w2 wr : World} {p : Nat} {A : Option Addr} {l : List UInt8} {c : Nat} {v1 v2 : Value} {d1 d2 : List DRule} (h : LN w w1 w2 wr p A l c v1 v2 d1 d2) :
    KeepD w.heap.size ((wr.setCell ⟨w.heap.size, 0, none⟩ v1).setCell ⟨w.heap.size + 1, 0, none⟩ v2).drew v1 d1 ∧ KeepD w.heap.size ((wr.setCell ⟨w.heap.size, 0, none⟩ v1).setCell ⟨w.heap.size + 1, 0, none⟩ v2).drew v2 d2 ∧
    Ext w ((wr.setCell ⟨w.heap.size, 0, none⟩ v1).setCell ⟨w.heap.size + 1, 0, none⟩ v2).drew ∧
    ((wr.setCell ⟨w.heap.size, 0, none⟩ v1).setCell ⟨w.heap.size + 1, 0, none⟩ v2).cell? ⟨w.heap.size, 0, none⟩ = some v1 ∧ ((wr.setCell ⟨w.heap.size, 0, none⟩ v1).setCell ⟨w.heap.size + 1, 0, none⟩ v2).cell? ⟨w.heap.size + 1, 0, none⟩ = some v2 := by
  have hp := h.hp
  have s1 : Same w1.heap.size wr (wr.setCell ⟨w.heap.size, 0, none⟩ v1) := Same.set _ _ (.inl (by show w.heap.size < _; omega))
  have s2 : Same w1.heap.size (wr.setCell ⟨w.heap.size, 0, none⟩ v1) ((wr.setCell ⟨w.heap.size, 0, none⟩ v1).setCell ⟨w.heap.size + 1, 0, none⟩ v2) := Same.set _ _ (.inl (by show w.heap.size + 1 < _; omega))
  have s3 := (s1.trans s2).trans (Same.of_ext (Ext_drew (Ext.refl _)))
  have b1 := (h.b1.set 0 v1).other (g' := w.heap.size + 1) (by omega) 0 v2
  have b2 := (h.b2.other (g' := w.heap.size) (by omega) 0 v1).set 0 v2
  exact ⟨(h.ka.same s3).low (by omega), (h.kb.same s3).low (by omega), Ext_drew ((h.ext.setCell (p := ⟨w.heap.size, 0, none⟩) (Nat.le_refl _) v1).setCell (p := ⟨w.heap.size + 1, 0, none⟩) (by show w.heap.size ≤ w.heap.size + 1; omega) v2), by simpa using b1.cell 0, by simpa using b2.cell 0⟩
set_option maxRecDepth 100000 in
set_option maxHeartbeats 16000000 in
theorem drawLost_c (A : Option Addr) (l : List UInt8) (c : Nat) (w : World) (hA : Bs w A l c) :
    Calls Try.prog 6 #[.slice A l.length c] w fun e w' => ∃ v1 v2 d1 d2 i, e = .returned (.tuple #[vdesc v1, .int .i64 i, vdesc v2, .int .i64 i]) ∧ SmD d1 ∧ SmD d2 ∧ KeepD w.heap.size w' v1 d1 ∧ KeepD w.heap.size w' v2 d2 ∧ (-1 ≤ i ∧ i ≤ 100) ∧ Ext w w' := by
  obtain ⟨W0, hW0, HR1, HR2, e0, hsA⟩ := boxes2' w #[.slice none 0 0] #[.slice none 0 0] 26 26
  have hsA := Lib.hid hsA
  have HR1 := Lib.hid HR1; have HR2 := Lib.hid HR2
  have CN := Lib.hid (fun w' h => l1New_c A l c w' h)
  have CP := Lib.hid (fun wb w' p h hb => l30Pair_c wb w' p A l c h hb)
  have CB := Lib.hid (fun n wb w' p h1 h2 hn => l1Below_c n wb w' p A l c h1 h2 hn)
  have CO := Lib.hid (fun n wb w' p h1 h2 hn => l1Once_c n wb w' p A l c h1 h2 hn)
  unfold vdesc at *
  go_enter Try.func6, Try.ntmps6
  go_wp2_with fail
  rw [← hW0.out]
  refine (CN.out _ (hA.ext e0)).mono ?_; rintro _ w1 ⟨p, rfl, hC1⟩
  have hpw := hC1.1
  have hC1' := hC1.lower' e0
  have hpl := hC1.lt
  go_wp2_with fail
  refine (CP.out w w1 p hA hC1').mono ?_; rintro _ w2 ⟨v1, v2, d1, d2, rfl, hs1, hs2, K1, K2, hC2, hg2⟩
  obtain ⟨A1, c1, hv1, _⟩ := K1.rd
  obtain ⟨A2, c2, hv2, _⟩ := K2.rd
  subst hv1; subst hv2
  have hn1 : d1.length ≤ 24 := hs1.1
  have hR1l := (HR1.out.ext hC1.2.1).lt; have hR2l := (HR2.out.ext hC1.2.1).lt
  have hw2 := hg2.size
  have hsz := hsA.out
  have b1 := HR1.out.ext hC1.2.1
  have b1' := b1.moved hg2 (some_ne (by omega))
  have b2' := (HR2.out.ext hC1.2.1).moved hg2 (some_ne (by omega))
  obtain ⟨W3, hW3, BA, BB, e3, hs3⟩ := boxes2' w2 #[.slice A1 d1.length c1] #[.slice A2 d2.length c2] 26 26
  have KA := Lib.hid (K1.same (Same.of_ext e3))
  have KB := Lib.hid (K2.same (Same.of_ext e3))
  have BA := Lib.hid BA; have BB := Lib.hid BB
  have B1 := Lib.hid (b1'.ext e3); have B2 := Lib.hid (b2'.ext e3)
  have C3 := Lib.hid (hC2.ext e3)
  have G3 : Hid (Ext w W3) := ((e0.trans hC1.2.1).grown hg2 (fun k hk => by injection hk with hk; omega)).trans e3
  have HS1 := Lib.hid hs1; have HS2 := Lib.hid hs2
  have cdA : W3.cell? ⟨w2.heap.size, 0, none⟩ = some (Value.slice A1 d1.length c1) := BA.out.cell 0
  have hpl2 := hC2.lt
  have hsA3 := Lib.hid hs3
  rw [hW3.out] at cdA
  clear K1 K2 hC2 hg2 b1 b1' b2' HR1 HR2 hs1 hs2 hC1 hC1' CP CN e0 hs3
  go_wp2_with fail
  rw [← hW3.out]
  refine (CB.out ((d1.length : Int) + 2) w W3 p hA C3.out (by omega)).mono ?_; rintro _ w4 ⟨y, hy, rfl, hC4, hg4⟩
  have L3 : Hid (LN w w1 w2 W3 p A l c (.slice A1 d1.length c1) (.slice A2 d2.length c2) d1 d2) := ⟨KA.out, KB.out, BA.out, BB.out, B1.out, B2.out, C3.out, G3.out, by omega, hpl, hw2⟩
  have L4 := Lib.hid (L3.out.moved hC4 hg4)
  have hy26 : y ≤ 26 := by unfold below at hy; split at hy <;> omega
  clear L3 KA KB BA BB B1 B2 C3 G3 hC4 hg4 hy cdA
  have HN1 := Lib.hid hn1
  go_wp2
  go_loopw [9, 10] (fun t u wr => ∃ (k : Nat) (x : Int), k ≤ d1.length ∧ (-1 ≤ x ∧ x ≤ 100) ∧ u = .int .i64 k ∧ t = .int .i64 x ∧ Hid (LN w w1 w2 wr p A l c (.slice A1 d1.length c1) (.slice A2 d2.length c2) d1 d2)) (fun _ u _ => d1.length - (intOf u).toNat)
  case atStart => exact ⟨0, (y : Int) - 1, by omega, by omega, rfl, by go_num, L4⟩
  case round =>
    clear L4
    obtain ⟨k, x, hk, hx, rfl, rfl, L5⟩ := hrel
    have cdA : wr.cell? ⟨w2.heap.size, 0, none⟩ = some (Value.slice A1 d1.length c1) := L5.out.ba.cell 0
    by_cases hlt : k < d1.length
    · go_wp2_with fail
      refine (CO.out 3 w wr p hA L5.out.cur (by omega)).mono ?_; rintro _ w6 ⟨z, rfl, hC6, hg6⟩
      have L6 := Lib.hid (L5.out.moved hC6 hg6)
      clear hC6 hg6 L5 cdA
      have cdA : w6.cell? ⟨w2.heap.size, 0, none⟩ = some (Value.slice A1 d1.length c1) := L6.out.ba.cell 0
      dsimp only
      cases z
      · obtain ⟨A1', c1', hv, hR⟩ := L6.out.ka.rd
        injection hv with q1 _ q2
        subst q1; subst q2
        obtain ⟨b, off, Ab, cb, An, cn, At, ct, Ak, ck, rfl, hb, _, hRa⟩ := hR.at k hlt
        have l1 := hRa.c1 w6 (Ext.refl _)
        clear hR hRa
        generalize d1[k] = r at *
        cases hkk : (r.kind == 6)
        · go_wp2
          go_roundw
          case rel => exact ⟨k + 1, x, by omega, hx, by go_num, rfl, L6⟩
          case measure => simp [intOf]; omega
        · go_wp2
          go_roundw
          case rel => exact ⟨k + 1, (k : Int), by omega, by omega, by go_num, rfl, L6⟩
          case measure => simp [intOf]; omega
      · have L5 := L6
        clear L6
        have hpp := L5.out.hp
        have r1 : w6.cell? ⟨w.heap.size, 0, none⟩ = some (Value.slice none 0 0) := L5.out.b1.cell 0
        have r1f := L5.out.b1.free 0
        have r2 : w6.cell? ⟨w.heap.size + 1, 0, none⟩ = some (Value.slice none 0 0) := L5.out.b2.cell 0
        have r2f := L5.out.b2.free 0
        have HAC : lv2 (fun w' => w'.cell? ⟨w2.heap.size + 1, 0, none⟩ = some (Value.slice A2 d2.length c2)) (fun w' => w'.cell? ⟨w2.heap.size, 0, none⟩ = some (Value.slice A1 d1.length c1)) 2 w6.drew := ⟨(L5.out.bb.ext (Ext_drew (Ext.refl _))).cell 0, (L5.out.ba.ext (Ext_drew (Ext.refl _))).cell 0⟩
        go_wp2_with fail
        refine wp_region_C (C := fun j => lv2 (fun w' => w'.cell? ⟨w2.heap.size + 1, 0, none⟩ = some (Value.slice A2 d2.length c2)) (fun w' => w'.cell? ⟨w2.heap.size, 0, none⟩ = some (Value.slice A1 d1.length c1)) (([2, 0, 3, 0, 3, 3, 0, 0] : List Nat).getD j 0)) (by kernel_rfl) ?_
        refine wpAnyC_take 0 (i := 1) (v := ?_) (lv2_mono _ _) rfl (by kernel_rfl) (by kernel_rfl) (by kernel_rfl) (by kernel_rfl) (by kernel_rfl) (fun _ _ _ h => h) trivial (Or.inl ⟨by rfl, ?_⟩) ?_
        rotate_left
        · (intro w hSw; clear hSw; go_simp; try with_reducible rfl)
        try simp only [Act.put, List.setIfInBounds_toArray, List.set_cons_zero, List.set_cons_succ]
        refine wpAnyC_take 0 (i := 3) (v := ?_) (lv2_mono _ _) rfl (by kernel_rfl) (by kernel_rfl) (by kernel_rfl) (by kernel_rfl) (by kernel_rfl) (fun _ _ _ h => h) trivial (Or.inl ⟨by rfl, ?_⟩) ?_
        rotate_left
        · (intro w hSw; clear hSw; go_simp; try with_reducible rfl)
        try simp only [Act.put, List.setIfInBounds_toArray, List.set_cons_zero, List.set_cons_succ]
        refine wpAnyC_take 2 (i := 0) (v := ?_) (lv2_mono _ _) rfl (by kernel_rfl) (by kernel_rfl) (by kernel_rfl) (by kernel_rfl) (by kernel_rfl) (fun _ _ _ h => h) HAC (Or.inl ⟨by rfl, ?_⟩) ?_
        rotate_left
        · (intro w hSw; have hfact : w.cell? ⟨w2.heap.size, 0, none⟩ = some (Value.slice A1 d1.length c1) := hSw.2; clear hSw; go_simp; try with_reducible rfl)
        try simp only [Act.put, List.setIfInBounds_toArray, List.set_cons_zero, List.set_cons_succ]
        refine wpAnyC_take 3 (i := 2) (v := ?_) (lv2_mono _ _) rfl (by kernel_rfl) (by kernel_rfl) (by kernel_rfl) (by kernel_rfl) (by kernel_rfl) (fun _ _ _ h => h) HAC (Or.inl ⟨by rfl, ?_⟩) ?_
        rotate_left
        · (intro w hSw; have hfact : w.cell? ⟨w2.heap.size + 1, 0, none⟩ = some (Value.slice A2 d2.length c2) := hSw.1; clear hSw; go_simp; try with_reducible rfl)
        try simp only [Act.put, List.setIfInBounds_toArray, List.set_cons_zero, List.set_cons_succ]
        refine wpAnyC_one (i := 4) (by kernel_rfl) rfl (fun K hK => ?_)
        go_simp
        refine Shut.out hK _ _ ⟨((L5.out.bb.other (g' := w.heap.size) (by omega) 0 (Value.slice A1 d1.length c1)).ext (Ext_drew (Ext.refl _))).cell 0, ((L5.out.ba.other (g' := w.heap.size) (by omega) 0 (Value.slice A1 d1.length c1)).ext (Ext_drew (Ext.refl _))).cell 0⟩ ?_
        try simp only [Act.put, List.setIfInBounds_toArray, List.set_cons_zero, List.set_cons_succ]
        refine wpAnyC_one (i := 5) (by kernel_rfl) rfl (fun K hK => ?_)
        go_simp
        refine Shut.out hK _ _ ⟨((L5.out.bb.other (g' := w.heap.size) (by omega) 0 (Value.slice A1 d1.length c1)).ext (Ext_drew (Ext.refl _))).cell 0, ((L5.out.ba.other (g' := w.heap.size) (by omega) 0 (Value.slice A1 d1.length c1)).ext (Ext_drew (Ext.refl _))).cell 0⟩ ?_
        try simp only [Act.put, List.setIfInBounds_toArray, List.set_cons_zero, List.set_cons_succ]
        refine wpAnyC_one (i := 6) (by kernel_rfl) rfl (fun K hK => ?_)
        go_simp
        refine Shut.out hK _ _ trivial ?_
        try simp only [Act.put, List.setIfInBounds_toArray, List.set_cons_zero, List.set_cons_succ]
        refine wpAnyC_one (i := 7) (by kernel_rfl) rfl (fun K hK => ?_)
        go_simp
        refine Shut.out hK _ _ trivial ?_
        try simp only [Act.put, List.setIfInBounds_toArray, List.set_cons_zero, List.set_cons_succ]
        refine wpAnyC_done (by kernel_rfl) ?_ _
        have PF := Lib.hid (lost_fin L5.out)
        obtain ⟨k1, k2, ke, z1, z2⟩ := PF.out
        have F1 := Lib.hid k1; have F2 := Lib.hid k2; have F3 := Lib.hid ke
        clear PF HAC r1 r1f r2 r2f k1 k2 ke L5
        go_wp2_with fail
        refine bodyPost_ret (v := .tuple #[.agg #[Value.slice A1 d1.length c1], .int .i64 x, .agg #[Value.slice A2 d2.length c2], .int .i64 x]) (by simp [results, Try.results6, go_sem, z1, z2]) rfl ?_
        first
          | exact ⟨_, _, d1, d2, x, rfl, HS1.out, HS2.out, F1.out, F2.out, hx, F3.out⟩
          | exact ⟨_, x, _, rfl, d1, d2, HS1.out, HS2.out, F1.out, F2.out, hx, F3.out⟩
    · obtain rfl : k = d1.length := by omega
      have hpp := L5.out.hp
      have r1 : wr.cell? ⟨w.heap.size, 0, none⟩ = some (Value.slice none 0 0) := L5.out.b1.cell 0
      have r1f := L5.out.b1.free 0
      have r2 : wr.cell? ⟨w.heap.size + 1, 0, none⟩ = some (Value.slice none 0 0) := L5.out.b2.cell 0
      have r2f := L5.out.b2.free 0
      have HAC : lv2 (fun w' => w'.cell? ⟨w2.heap.size + 1, 0, none⟩ = some (Value.slice A2 d2.length c2)) (fun w' => w'.cell? ⟨w2.heap.size, 0, none⟩ = some (Value.slice A1 d1.length c1)) 2 wr.drew := ⟨(L5.out.bb.ext (Ext_drew (Ext.refl _))).cell 0, (L5.out.ba.ext (Ext_drew (Ext.refl _))).cell 0⟩
      go_wp2_with fail
      refine wp_region_C (C := fun j => lv2 (fun w' => w'.cell? ⟨w2.heap.size + 1, 0, none⟩ = some (Value.slice A2 d2.length c2)) (fun w' => w'.cell? ⟨w2.heap.size, 0, none⟩ = some (Value.slice A1 d1.length c1)) (([2, 0, 3, 0, 3, 3, 0, 0] : List Nat).getD j 0)) (by kernel_rfl) ?_
      refine wpAnyC_take 0 (i := 1) (v := ?_) (lv2_mono _ _) rfl (by kernel_rfl) (by kernel_rfl) (by kernel_rfl) (by kernel_rfl) (by kernel_rfl) (fun _ _ _ h => h) trivial (Or.inl ⟨by rfl, ?_⟩) ?_
      rotate_left
      · (intro w hSw; clear hSw; go_simp; try with_reducible rfl)
      try simp only [Act.put, List.setIfInBounds_toArray, List.set_cons_zero, List.set_cons_succ]
      refine wpAnyC_take 0 (i := 3) (v := ?_) (lv2_mono _ _) rfl (by kernel_rfl) (by kernel_rfl) (by kernel_rfl) (by kernel_rfl) (by kernel_rfl) (fun _ _ _ h => h) trivial (Or.inl ⟨by rfl, ?_⟩) ?_
      rotate_left
      · (intro w hSw; clear hSw; go_simp; try with_reducible rfl)
      try simp only [Act.put, List.setIfInBounds_toArray, List.set_cons_zero, List.set_cons_succ]
      refine wpAnyC_take 2 (i := 0) (v := ?_) (lv2_mono _ _) rfl (by kernel_rfl) (by kernel_rfl) (by kernel_rfl) (by kernel_rfl) (by kernel_rfl) (fun _ _ _ h => h) HAC (Or.inl ⟨by rfl, ?_⟩) ?_
      rotate_left
      · (intro w hSw; have hfact : w.cell? ⟨w2.heap.size, 0, none⟩ = some (Value.slice A1 d1.length c1) := hSw.2; clear hSw; go_simp; try with_reducible rfl)
      try simp only [Act.put, List.setIfInBounds_toArray, List.set_cons_zero, List.set_cons_succ]
      refine wpAnyC_take 3 (i := 2) (v := ?_) (lv2_mono _ _) rfl (by kernel_rfl) (by kernel_rfl) (by kernel_rfl) (by kernel_rfl) (by kernel_rfl) (fun _ _ _ h => h) HAC (Or.inl ⟨by rfl, ?_⟩) ?_
      rotate_left
      · (intro w hSw; have hfact : w.cell? ⟨w2.heap.size + 1, 0, none⟩ = some (Value.slice A2 d2.length c2) := hSw.1; clear hSw; go_simp; try with_reducible rfl)
      try simp only [Act.put, List.setIfInBounds_toArray, List.set_cons_zero, List.set_cons_succ]
      refine wpAnyC_one (i := 4) (by kernel_rfl) rfl (fun K hK => ?_)
      go_simp
      refine Shut.out hK _ _ ⟨((L5.out.bb.other (g' := w.heap.size) (by omega) 0 (Value.slice A1 d1.length c1)).ext (Ext_drew (Ext.refl _))).cell 0, ((L5.out.ba.other (g' := w.heap.size) (by omega) 0 (Value.slice A1 d1.length c1)).ext (Ext_drew (Ext.refl _))).cell 0⟩ ?_
      try simp only [Act.put, List.setIfInBounds_toArray, List.set_cons_zero, List.set_cons_succ]
      refine wpAnyC_one (i := 5) (by kernel_rfl) rfl (fun K hK => ?_)
      go_simp
      refine Shut.out hK _ _ ⟨((L5.out.bb.other (g' := w.heap.size) (by omega) 0 (Value.slice A1 d1.length c1)).ext (Ext_drew (Ext.refl _))).cell 0, ((L5.out.ba.other (g' := w.heap.size) (by omega) 0 (Value.slice A1 d1.length c1)).ext (Ext_drew (Ext.refl _))).cell 0⟩ ?_
      try simp only [Act.put, List.setIfInBounds_toArray, List.set_cons_zero, List.set_cons_succ]
      refine wpAnyC_one (i := 6) (by kernel_rfl) rfl (fun K hK => ?_)
      go_simp
      refine Shut.out hK _ _ trivial ?_
      try simp only [Act.put, List.setIfInBounds_toArray, List.set_cons_zero, List.set_cons_succ]
      refine wpAnyC_one (i := 7) (by kernel_rfl) rfl (fun K hK => ?_)
      go_simp
      refine Shut.out hK _ _ trivial ?_
      try simp only [Act.put, List.setIfInBounds_toArray, List.set_cons_zero, List.set_cons_succ]
      refine wpAnyC_done (by kernel_rfl) ?_ _
      have PF := Lib.hid (lost_fin L5.out)
      obtain ⟨k1, k2, ke, z1, z2⟩ := PF.out
      have F1 := Lib.hid k1; have F2 := Lib.hid k2; have F3 := Lib.hid ke
      clear PF HAC r1 r1f r2 r2f k1 k2 ke L5
      go_wp2_with fail
      refine bodyPost_ret (v := .tuple #[.agg #[Value.slice A1 d1.length c1], .int .i64 x, .agg #[Value.slice A2 d2.length c2], .int .i64 x]) (by simp [results, Try.results6, go_sem, z1, z2]) rfl ?_
      first
        | exact ⟨_, _, d1, d2, x, rfl, HS1.out, HS2.out, F1.out, F2.out, hx, F3.out⟩
        | exact ⟨_, x, _, rfl, d1, d2, HS1.out, HS2.out, F1.out, F2.out, hx, F3.out⟩
end Go.Proofs.Ytophjmphjdhjoaa

/- MergeCoverage of the program and of the reference. -/
namespace Go.Proofs.Ytophjmphjdhjoaa
open Go.RowKit Go.Sort

def at0 (l : List Int) (i : Nat) : Int := l.getD i 0
theorem at0_in {l : List Int} {i : Nat} (h : i < l.length) : at0 l i = l[i] := by unfold at0; simp [h]
theorem at0_out {l : List Int} {i : Nat} (h : ¬ i < l.length) : at0 l i = 0 := by unfold at0; simp [List.getElem?_eq_none (Nat.le_of_not_lt h)]
def merged (a b : List Int) : List Int := (List.range (max a.length b.length)).map fun i => wrap64 (at0 a i + at0 b i)
theorem merged_len (l l' : List Int) : (merged l l').length = max l.length l'.length := by simp [merged]
theorem merged_take {l l' : List Int} {k : Nat} (hk : k < max l.length l'.length) : (merged l l').take k ++ [wrap64 (at0 l k + at0 l' k)] = (merged l l').take (k+1) := by
  have hk' : k < (merged l l').length := by rw [merged_len]; exact hk
  rw [List.take_succ_eq_append_getElem hk']
  simp [merged]
end Go.Proofs.Ytophjmphjdhjoaa

/- Comparison of descriptions: the laws' helpers, the program's and the reference's. -/
namespace Go.Proofs.Ytophjmphjdhjoaa
open Go.RowKit Go.Sort

def eqNm (a b : ByteArray) : Bool := a.toList == b.toList
def eqNms (l l' : List ByteArray) : Bool := l.map ByteArray.toList == l'.map ByteArray.toList
def eqR (r q : DRule) : Bool := r.nm.toList == q.nm.toList && r.kind == q.kind && r.size == q.size && r.little == q.little && r.bytes == q.bytes && eqNms r.names q.names && r.tags == q.tags && r.kids == q.kids
def eqAll {α : Type} (f : α → α → Bool) : List α → List α → Bool
  | [], [] => true
  | a :: s, b :: t => f a b && eqAll f s t
  | _, _ => false
theorem eqAll_len {α : Type} (f : α → α → Bool) : ∀ (s t : List α), s.length ≠ t.length → eqAll f s t = false
  | [], [], h => absurd rfl h
  | [], _ :: _, _ => rfl
  | _ :: _, [], _ => rfl
  | a :: s, b :: t, h => by rw [eqAll, eqAll_len f s t (by simpa using h), Bool.and_false]
theorem eqAll_take {α : Type} (f : α → α → Bool) : ∀ (s t : List α) (k : Nat) (h1 : k < s.length) (h2 : k < t.length), f s[k] t[k] = false → eqAll f s t = false
  | a :: s, b :: t, 0, _, _, h => by rw [eqAll]; simp at h; rw [h]; rfl
  | a :: s, b :: t, k + 1, h1, h2, h => by rw [eqAll, eqAll_take f s t k (by simpa using h1) (by simpa using h2) (by simpa using h), Bool.and_false]
theorem eqAll_all {α : Type} (f : α → α → Bool) : ∀ (s t : List α), s.length = t.length → (∀ k (h1 : k < s.length) (h2 : k < t.length), f s[k] t[k] = true) → eqAll f s t = true
  | [], [], _, _ => rfl
  | a :: s, b :: t, hl, h => by
    rw [eqAll, eqAll_all f s t (by simpa using hl) (fun k h1 h2 => by have := h (k+1) (by simpa using h1) (by simpa using h2); simpa using this)]
    have := h 0 (by simp) (by simp); simp at this; rw [this]; rfl
  | [], _ :: _, h, _ => by simp at h
  | _ :: _, [], h, _ => by simp at h
theorem eqAll_refl {α : Type} (f : α → α → Bool) (s : List α) (h : ∀ a ∈ s, f a a = true) : eqAll f s s = true := eqAll_all f s s rfl (fun k h1 _ => h _ (List.getElem_mem h1))
def eqD (s t : List DRule) : Bool := eqAll eqR s t
def eqG (s t : List (List DRule)) : Bool := eqAll eqD s t
theorem eqNms_refl (l : List ByteArray) : eqNms l l = true := by simp [eqNms]
theorem eqR_refl (r : DRule) : eqR r r = true := by simp [eqR, eqNms_refl]
theorem eqD_refl (s : List DRule) : eqD s s = true := eqAll_refl _ _ (fun a _ => eqR_refl a)
theorem eqG_refl (s : List (List DRule)) : eqG s s = true := eqAll_refl _ _ (fun a _ => eqD_refl a)
end Go.Proofs.Ytophjmphjdhjoaa

/- Comparison of descriptions: the laws' helpers, the program's and the reference's. -/
namespace Go.Proofs.Ytophjmphjdhjoaa
open Go.RowKit Go.Sort

theorem eqNms_take {l l' : List ByteArray} {k : Nat} (h1 : k < l.length) (h2 : k < l'.length) (h : (l.take k).map ByteArray.toList = (l'.take k).map ByteArray.toList) (e : (l[k].toList == l'[k].toList) = true) : (l.take (k+1)).map ByteArray.toList = (l'.take (k+1)).map ByteArray.toList := by
  rw [List.take_succ_eq_append_getElem h1, List.take_succ_eq_append_getElem h2, List.map_append, List.map_append, h]
  simp at e
  simp [e]
theorem eqNms_no {l l' : List ByteArray} {k : Nat} (h1 : k < l.length) (h2 : k < l'.length) (e : (l[k].toList == l'[k].toList) = false) : eqNms l l' = false := by
  unfold eqNms
  rw [beq_eq_false_iff_ne]
  intro h
  have h3 : (l.map ByteArray.toList)[k]? = (l'.map ByteArray.toList)[k]? := by rw [h]
  simp [h1, h2] at h3
  simp [h3] at e

set_option maxHeartbeats 400000 in
theorem sameTexts_c (A A' : Option Addr) (l l' : List ByteArray) (c c' : Nat) (w : World) (h : Rd0 vstr w A l c) (h' : Rd0 vstr w A' l' c') :
    Gives Try.prog 9 #[.slice A l.length c, .slice A' l'.length c'] w (.bool (eqNms l l')) := by
  have hl := h.len; have hl' := h'.len
  by_cases hn : l.length = l'.length
  · have hb1 : ((l.length : Int) != (l'.length : Int)) = false := by simp [hn]
    have H := Lib.hid hn; clear hn
    go_enter Try.func9, Try.ntmps9
    go_wp2
    go_loopw [5, 4] (fun i v wr => ∃ k : Nat, k ≤ l.length ∧ i = .int .i64 k ∧ Hid ((l.take k).map ByteArray.toList = (l'.take k).map ByteArray.toList) ∧ Ext w wr) (fun i _ _ => l.length - (intOf i).toNat)
    case atStart => exact ⟨0, by omega, rfl, by simp [Hid], Ext.refl _⟩
    case round =>
      obtain ⟨k, hk, rfl, ht, he⟩ := hrel
      by_cases hlt : k < l.length
      · have hlt' : k < l'.length := by have := H.out; omega
        obtain ⟨b, off, rfl, hb, hc⟩ := h.at k hlt
        obtain ⟨b', off', rfl, hb', hc'⟩ := h'.at k hlt'
        clear h h'
        go_wp2
        refine wp_region_quiet_below (by kernel_rfl) (by kernel_rfl) ?_
        repeat (go_big_quiet_step (fail))
        refine wpQuiet_nil ?_
        rintro _ ⟨⟨nq, osq⟩, rfl⟩
        go_wp2
        · have hne : (l[k].toList != l'[k].toList) = true := by assumption
          go_ret
          refine ⟨ret_bool ?_, Ext_regrown _ _ he⟩
          exact (eqNms_no hlt hlt' (by simpa using hne)).symm
        · have hne : (l[k].toList != l'[k].toList) = false := by assumption
          go_roundw
          case rel => exact ⟨k+1, by omega, by go_num, eqNms_take hlt hlt' ht.out (by simpa using hne), Ext_regrown _ _ he⟩
          case measure => simp [intOf]; omega
      · go_wp2
        go_ret
        refine ⟨ret_bool ?_, he⟩
        have ht := ht.out; have H := H.out
        rw [List.take_of_length_le (by omega), List.take_of_length_le (by omega)] at ht
        simp [eqNms, ht]
  · have hb1 : ((l.length : Int) != (l'.length : Int)) = true := by simp; omega
    go_enter Try.func9, Try.ntmps9
    go_wp2
    go_ret
    refine ⟨ret_bool ?_, Ext.refl _⟩
    symm; unfold eqNms; rw [beq_eq_false_iff_ne]; intro h2; exact hn (by have := congrArg List.length h2; simpa using this)

set_option maxHeartbeats 400000 in
theorem l4Texts_c (A A' : Option Addr) (l l' : List ByteArray) (c c' : Nat) (w : World) (h : Rd0 vstr w A l c) (h' : Rd0 vstr w A' l' c') :
    Gives Try.prog 48 #[.slice A l.length c, .slice A' l'.length c'] w (.bool (eqNms l l')) := by
  have hl := h.len; have hl' := h'.len
  by_cases hn : l.length = l'.length
  · have hb1 : ((l.length : Int) != (l'.length : Int)) = false := by simp [hn]
    have H := Lib.hid hn; clear hn
    go_enter Try.func48, Try.ntmps48
    go_wp2
    go_loopw [5, 4] (fun i v wr => ∃ k : Nat, k ≤ l.length ∧ i = .int .i64 k ∧ Hid ((l.take k).map ByteArray.toList = (l'.take k).map ByteArray.toList) ∧ Ext w wr) (fun i _ _ => l.length - (intOf i).toNat)
    case atStart => exact ⟨0, by omega, rfl, by simp [Hid], Ext.refl _⟩
    case round =>
      obtain ⟨k, hk, rfl, ht, he⟩ := hrel
      by_cases hlt : k < l.length
      · have hlt' : k < l'.length := by have := H.out; omega
        obtain ⟨b, off, rfl, hb, hc⟩ := h.at k hlt
        obtain ⟨b', off', rfl, hb', hc'⟩ := h'.at k hlt'
        clear h h'
        go_wp2
        refine wp_region_quiet_below (by kernel_rfl) (by kernel_rfl) ?_
        repeat (go_big_quiet_step (fail))
        refine wpQuiet_nil ?_
        rintro _ ⟨⟨nq, osq⟩, rfl⟩
        go_wp2
        · have hne : (l[k].toList != l'[k].toList) = true := by assumption
          go_ret
          refine ⟨ret_bool ?_, Ext_regrown _ _ he⟩
          exact (eqNms_no hlt hlt' (by simpa using hne)).symm
        · have hne : (l[k].toList != l'[k].toList) = false := by assumption
          go_roundw
          case rel => exact ⟨k+1, by omega, by go_num, eqNms_take hlt hlt' ht.out (by simpa using hne), Ext_regrown _ _ he⟩
          case measure => simp [intOf]; omega
      · go_wp2
        go_ret
        refine ⟨ret_bool ?_, he⟩
        have ht := ht.out; have H := H.out
        rw [List.take_of_length_le (by omega), List.take_of_length_le (by omega)] at ht
        simp [eqNms, ht]
  · have hb1 : ((l.length : Int) != (l'.length : Int)) = true := by simp; omega
    go_enter Try.func48, Try.ntmps48
    go_wp2
    go_ret
    refine ⟨ret_bool ?_, Ext.refl _⟩
    symm; unfold eqNms; rw [beq_eq_false_iff_ne]; intro h2; exact hn (by have := congrArg List.length h2; simpa using this)
set_option maxHeartbeats 400000 in
theorem l4Ints_c (A A' : Option Addr) (l l' : List Int) (c c' : Nat) (w : World) (h : Rd0 vint w A l c) (h' : Rd0 vint w A' l' c') :
    Gives Try.prog 49 #[.slice A l.length c, .slice A' l'.length c'] w (.bool (l == l')) := by
  have hl := h.len; have hl' := h'.len
  by_cases hn : l.length = l'.length
  · have hb1 : ((l.length : Int) != (l'.length : Int)) = false := by simp [hn]
    have H := Lib.hid hn; clear hn
    go_enter Try.func49, Try.ntmps49
    go_wp2
    go_loopw [5, 4] (fun i v wr => ∃ k : Nat, k ≤ l.length ∧ i = .int .i64 k ∧ Hid (l.take k = l'.take k) ∧ Ext w wr) (fun i _ _ => l.length - (intOf i).toNat)
    case atStart => exact ⟨0, by omega, rfl, by simp [Hid], Ext.refl _⟩
    case round =>
      obtain ⟨k, hk, rfl, ht, he⟩ := hrel
      by_cases hlt : k < l.length
      · have hlt' : k < l'.length := by have := H.out; omega
        obtain ⟨b, off, rfl, hb, hc⟩ := h.at k hlt
        obtain ⟨b', off', rfl, hb', hc'⟩ := h'.at k hlt'
        clear h h'
        go_wp2
        refine wp_region_quiet_below (by kernel_rfl) (by kernel_rfl) ?_
        repeat (go_big_quiet_step (fail))
        refine wpQuiet_nil ?_
        rintro _ ⟨⟨nq, osq⟩, rfl⟩
        go_wp2
        · have hne : (l[k] != l'[k]) = true := by assumption
          go_ret
          refine ⟨ret_bool ?_, Ext_regrown _ _ he⟩
          symm; rw [beq_eq_false_iff_ne]; rintro rfl; simp at hne
        · have hne : (l[k] != l'[k]) = false := by assumption
          go_roundw
          case rel => exact ⟨k+1, by omega, by go_num, take_eq_succ hlt hlt' ht (by simpa using hne), Ext_regrown _ _ he⟩
          case measure => simp [intOf]; omega
      · go_wp2
        go_ret
        refine ⟨ret_bool ?_, he⟩
        have ht := ht.out; have H := H.out
        rw [List.take_of_length_le (by omega), List.take_of_length_le (by omega)] at ht
        simp [ht]
  · have hb1 : ((l.length : Int) != (l'.length : Int)) = true := by simp; omega
    go_enter Try.func49, Try.ntmps49
    go_wp2
    go_ret
    refine ⟨ret_bool ?_, Ext.refl _⟩
    symm; rw [beq_eq_false_iff_ne]; rintro rfl; exact hn rfl
end Go.Proofs.Ytophjmphjdhjoaa

/- Comparison of rules: the reference's and the program's. -/
namespace Go.Proofs.Ytophjmphjdhjoaa
open Go.RowKit Go.Sort

set_option maxRecDepth 100000 in
set_option maxHeartbeats 4000000 in
theorem l4Equal_c (r q : DRule) (Ab : Option Addr) (cb : Nat) (An : Option Addr) (cn : Nat) (At : Option Addr) (ct : Nat) (Ak : Option Addr) (ck : Nat) (Ab' : Option Addr) (cb' : Nat) (An' : Option Addr) (cn' : Nat) (At' : Option Addr) (ct' : Nat) (Ak' : Option Addr) (ck' : Nat) (w : World) (h : RdS w r Ab cb An cn At ct Ak ck) (h' : RdS w q Ab' cb' An' cn' At' ct' Ak' ck') (hs : ShortR r) (hs' : ShortR q) :
    Gives Try.prog 32 #[vrule r (.slice Ab r.bytes.length cb) (.slice An r.names.length cn) (.slice At r.tags.length ct) (.slice Ak r.kids.length ck), vrule q (.slice Ab' q.bytes.length cb') (.slice An' q.names.length cn') (.slice At' q.tags.length ct') (.slice Ak' q.kids.length ck')] w (.bool (eqR r q)) := by
  have eb := Ext_alloc (.cells #[.string q.nm, .int .i64 q.kind, .int .i64 q.size, .bool q.little, .slice Ab' q.bytes.length cb', .slice An' q.names.length cn', .slice At' q.tags.length ct', .slice Ak' q.kids.length ck'] 35) (Ext_alloc (.cells #[.string r.nm, .int .i64 r.kind, .int .i64 r.size, .bool r.little, .slice Ab r.bytes.length cb, .slice An r.names.length cn, .slice At r.tags.length ct, .slice Ak r.kids.length ck] 35) (Ext.refl w))
  have BX := fun w' (e : Ext ((w.alloc (.cells #[.string r.nm, .int .i64 r.kind, .int .i64 r.size, .bool r.little, .slice Ab r.bytes.length cb, .slice An r.names.length cn, .slice At r.tags.length ct, .slice Ak r.kids.length ck] 35)).alloc (.cells #[.string q.nm, .int .i64 q.kind, .int .i64 q.size, .bool q.little, .slice Ab' q.bytes.length cb', .slice An' q.names.length cn', .slice At' q.tags.length ct', .slice Ak' q.kids.length ck'] 35)) w') => boxed2 e
  have B0 := fun w' e => (BX w' e).1
  have B1 := fun w' e => (BX w' e).2.1
  clear BX
  have C5 := Lib.hid (fun w h h' => sEqualBytes_c Ab Ab' r.bytes q.bytes cb cb' w h h')
  have C6 := Lib.hid (fun w h h' => l4Texts_c An An' r.names q.names cn cn' w h h')
  have C7 := Lib.hid (fun w h h' => l4Ints_c At At' r.tags q.tags ct ct' w h h')
  have C8 := Lib.hid (fun w h h' => l4Ints_c Ak Ak' r.kids q.kids ck ck' w h h')
  have K5 := Lib.hid (fun w' (e : Ext w w') => C5.out w' (⟨h.b.ext e, hs.1⟩) (⟨h'.b.ext e, hs'.1⟩))
  have K6 := Lib.hid (fun w' (e : Ext w w') => C6.out w' (h.n.ext e) (h'.n.ext e))
  have K7 := Lib.hid (fun w' (e : Ext w w') => C7.out w' (h.t.ext e) (h'.t.ext e))
  have K8 := Lib.hid (fun w' (e : Ext w w') => C8.out w' (h.k.ext e) (h'.k.ext e))
  clear C5 C6 C7 C8 h h' hs hs'
  unfold eqR
  generalize (r.bytes == q.bytes) = q5 at *
  generalize eqNms r.names q.names = q6 at *
  generalize (r.tags == q.tags) = q7 at *
  generalize (r.kids == q.kids) = q8 at *
  obtain ⟨nm, kind, size, little, bytes, names, tags, kids⟩ := r
  obtain ⟨nm', kind', size', little', bytes', names', tags', kids'⟩ := q
  unfold vrule
  dsimp only at *
  have HB0 := Lib.hid B0; have HB1 := Lib.hid B1; have b00 := B0 _ (Ext.refl _); have b10 := B1 _ (Ext.refl _); clear B0 B1
  cases g1 : (nm.toList == nm'.toList)
  · have h1 : (nm.toList != nm'.toList) = true := by rw [bne, g1]; rfl
    go_enter Try.func32, Try.ntmps32
    go_wp2
    go_ret
    exact ⟨ret_bool (by simp), eb⟩
  have h1 : (nm.toList != nm'.toList) = false := by rw [bne, g1]; rfl
  cases g2 : (kind == kind')
  · have h2 : (kind != kind') = true := by rw [bne, g2]; rfl
    go_enter Try.func32, Try.ntmps32
    go_wp2
    go_ret
    exact ⟨ret_bool (by simp), eb⟩
  have h2 : (kind != kind') = false := by rw [bne, g2]; rfl
  cases g3 : (size == size')
  · have h3 : (size != size') = true := by rw [bne, g3]; rfl
    go_enter Try.func32, Try.ntmps32
    go_wp2
    go_ret
    exact ⟨ret_bool (by simp), eb⟩
  have h3 : (size != size') = false := by rw [bne, g3]; rfl
  cases g4 : (little == little')
  · have h4 : (little != little') = true := by rw [bne, g4]; rfl
    go_enter Try.func32, Try.ntmps32
    go_wp2
    go_ret
    exact ⟨ret_bool (by simp), eb⟩
  have h4 : (little != little') = false := by rw [bne, g4]; rfl
  go_enter Try.func32, Try.ntmps32
  go_wp2_with fail
  refine (K5.out _ eb).mono ?_; rintro _ w5 ⟨rfl, he5⟩
  have e5 := he5
  have b05 := HB0.out _ e5; have b15 := HB1.out _ e5; clear he5 b00 b10 h1 h2 h3 h4 g1 g2 g3 g4
  cases q5
  · go_wp2
    go_ret
    exact ⟨ret_bool (by simp), eb.trans e5⟩
  go_wp2_with fail
  refine (K6.out _ (eb.trans e5)).mono ?_; rintro _ w6 ⟨rfl, he6⟩
  have e6 := e5.trans he6
  have b06 := HB0.out _ e6; have b16 := HB1.out _ e6; clear he6 b05 b15 e5
  cases q6
  · go_wp2
    go_ret
    exact ⟨ret_bool (by simp), eb.trans e6⟩
  go_wp2_with fail
  refine (K7.out _ (eb.trans e6)).mono ?_; rintro _ w7 ⟨rfl, he7⟩
  have e7 := e6.trans he7
  have b07 := HB0.out _ e7; have b17 := HB1.out _ e7; clear he7 b06 b16 e6
  cases q7
  · go_wp2
    go_ret
    exact ⟨ret_bool (by simp), eb.trans e7⟩
  go_wp2_with fail
  refine (K8.out _ (eb.trans e7)).mono ?_; rintro _ w8 ⟨rfl, he8⟩
  have e8 := e7.trans he8
  have b08 := HB0.out _ e8; have b18 := HB1.out _ e8; clear he8 b07 b17 e7
  cases q8
  · go_wp2
    go_ret
    exact ⟨ret_bool (by simp), eb.trans e8⟩
  go_wp2
  go_ret
  exact ⟨ret_bool (by simp), eb.trans e8⟩
/-- rules, all short -/
def ShortD (ds : List DRule) : Prop := ∀ r ∈ ds, ShortR r
def ShortG (gs : List (List DRule)) : Prop := ∀ d ∈ gs, ShortD d
theorem shortD_of {ds : List DRule} (h : szD ds ≤ 1048576) : ShortD ds := fun _ hr => (szRl_short (szD_mem h hr)).1
theorem shortG_of {gs : List (List DRule)} (h : szG gs ≤ 1048576) : ShortG gs := fun _ hd => shortD_of (szG_mem h hd)
end Go.Proofs.Ytophjmphjdhjoaa

/- Parts of the test of a description: names in lists, limits, fields. -/
namespace Go.Proofs.Ytophjmphjdhjoaa
open Go.RowKit Go.Sort

set_option maxHeartbeats 400000 in
theorem sContains_c (A : Option Addr) (l : List ByteArray) (c : Nat) (s : ByteArray) (w : World) (h : Rd0 vstr w A l c) :
    Gives Try.prog 11 #[.slice A l.length c, .string s] w (.bool (hasNm l s)) := by
  have hl := h.len
  go_enter Try.func11, Try.ntmps11
  go_wp2
  go_loopw [5] (fun i wr => ∃ k : Nat, k ≤ l.length ∧ i = .int .i64 k ∧ Hid (∀ j (hj : j < l.length), j < k → (l[j].toList == s.toList) = false) ∧ Ext w wr) (fun i _ => l.length - (intOf i).toNat)
  case atStart => exact ⟨0, by omega, rfl, (fun j _ hj => by omega), Ext.refl _⟩
  case round =>
    obtain ⟨k, hk, rfl, ht, he⟩ := hrel
    by_cases hlt : k < l.length
    · obtain ⟨b, off, rfl, hb, hc⟩ := h.at k hlt
      have YES : Hid ((l[k].toList == s.toList) = true → hasNm l s = true) := hasNm_at hlt
      have NO : Hid ((l[k].toList == s.toList) = false → ∀ j (hj : j < l.length), j < k + 1 → (l[j].toList == s.toList) = false) := by
        intro hy j hj hjk
        rcases (by omega : j < k ∨ j = k) with hjk | rfl
        · exact ht.out j hj hjk
        · exact hy
      clear h
      generalize l[k] = x at *
      cases hq : (x.toList == s.toList)
      · have NO' := Lib.hid (NO.out hq)
        go_wp2
        go_roundw
        case rel => exact ⟨k+1, by omega, by go_num, NO'.out, he⟩
        case measure => simp [intOf]; omega
      · have YES' := Lib.hid (YES.out hq)
        go_wp2
        go_ret
        exact ⟨ret_bool YES'.out.symm, he⟩
    · have HE : Hid (hasNm l s = false) := hasNm_none (fun j hj => ht.out j hj (by omega))
      go_wp2
      go_ret
      exact ⟨ret_bool HE.out.symm, he⟩
set_option maxHeartbeats 400000 in
theorem iContains_c (A : Option Addr) (l : List ByteArray) (c : Nat) (s : ByteArray) (w : World) (h : Rd0 vstr w A l c) :
    Gives Try.prog 23 #[.slice A l.length c, .string s] w (.bool (hasNm l s)) := by
  have hl := h.len
  go_enter Try.func23, Try.ntmps23
  go_wp2
  go_loopw [9] (fun i wr => ∃ k : Nat, k ≤ l.length ∧ i = .int .i64 k ∧ Hid (∀ j (hj : j < l.length), j < k → (l[j].toList == s.toList) = false) ∧ Ext w wr) (fun i _ => l.length - (intOf i).toNat)
  case atStart => exact ⟨0, by omega, rfl, (fun j _ hj => by omega), Ext.refl _⟩
  case round =>
    obtain ⟨k, hk, rfl, ht, he⟩ := hrel
    by_cases hlt : k < l.length
    · obtain ⟨b, off, rfl, hb, hc⟩ := h.at k hlt
      have YES : Hid ((l[k].toList == s.toList) = true → hasNm l s = true) := hasNm_at hlt
      have NO : Hid ((l[k].toList == s.toList) = false → ∀ j (hj : j < l.length), j < k + 1 → (l[j].toList == s.toList) = false) := by
        intro hy j hj hjk
        rcases (by omega : j < k ∨ j = k) with hjk | rfl
        · exact ht.out j hj hjk
        · exact hy
      clear h
      generalize l[k] = x at *
      cases hq : (x.toList == s.toList)
      · have NO' := Lib.hid (NO.out hq)
        go_wp2
        go_roundw
        case rel => exact ⟨k+1, by omega, by go_num, NO'.out, he⟩
        case measure => simp [intOf]; omega
      · have YES' := Lib.hid (YES.out hq)
        go_wp2
        go_ret
        exact ⟨ret_bool YES'.out.symm, he⟩
    · have HE : Hid (hasNm l s = false) := hasNm_none (fun j hj => ht.out j hj (by omega))
      go_wp2
      go_ret
      exact ⟨ret_bool HE.out.symm, he⟩
set_option maxHeartbeats 400000 in
theorem hasRule_c (A : Option Addr) (n c : Nat) (i : Int) (w : World) (hn : n ≤ 9223372036854775807) :
    Gives Try.prog 42 #[vdesc (.slice A n c), .int .i64 i] w (.bool (decide (0 ≤ i) && decide (i < n))) := by
  unfold vdesc
  by_cases h0 : 0 ≤ i
  · by_cases h1 : i < n
    all_goals
      go_enter Try.func42, Try.ntmps42
      go_wp2
      go_ret
      exact ⟨ret_bool (by simp [*]), Ext_alloc _ (Ext.refl w)⟩
  · go_enter Try.func42, Try.ntmps42
    go_wp2
    go_ret
    exact ⟨ret_bool (by simp; omega), Ext_alloc _ (Ext.refl w)⟩
end Go.Proofs.Ytophjmphjdhjoaa

/- Limits of integers; the fields that a rule may have. -/
namespace Go.Proofs.Ytophjmphjdhjoaa
open Go.RowKit Go.Sort

theorem limD_out {ds : List DRule} {i : Int} (h : ¬ (0 ≤ i ∧ i < ds.length)) : limD ds i = -1 := by
  unfold limD
  split
  · rw [List.getElem?_eq_none (by omega)]
  · rfl
theorem limD_in {ds : List DRule} {k : Nat} (h : k < ds.length) : limD ds (k : Int) = limR ds[k] := by
  unfold limD
  rw [if_pos (by omega), Int.toNat_natCast, List.getElem?_eq_getElem h]
theorem limR_kind {r : DRule} (h : r.kind ≠ 1) : limR r = -1 := by unfold limR; rw [if_neg (by omega)]
theorem limR_size {r : DRule} (h : ¬ (1 ≤ r.size ∧ r.size ≤ 4)) : limR r = -1 := by unfold limR; rw [if_neg (by omega)]
theorem limR_yes {r : DRule} (h : r.kind = 1) (s : Nat) (h1 : 1 ≤ s) (h2 : s ≤ 4) (e : r.size = s) : limR r = 256 ^ s - 1 := by
  unfold limR; rw [if_pos (by omega), e, Int.toNat_natCast]
set_option maxRecDepth 100000 in
set_option maxHeartbeats 2000000 in
theorem iLimit_c (A : Option Addr) (ds : List DRule) (c : Nat) (i : Int) (w : World) (h : RdD w A ds c) :
    Gives Try.prog 66 #[vdesc (.slice A ds.length c), .int .i64 i] w (.int .i64 (limD ds i)) := by
  have hl := h.len
  have eb := Ext_alloc (.cells #[.slice A ds.length c] 26) (Ext.refl w)
  have BX := fun w' (e : Ext (w.alloc (.cells #[.slice A ds.length c] 26)) w') => boxed e 0
  simp only [List.getElem?_toArray, List.getElem?_cons_zero] at BX
  have CR := Lib.hid (fun w => hasRule_c A ds.length c i w hl)
  unfold vdesc at *
  by_cases hin : 0 ≤ i ∧ i < ds.length
  · obtain ⟨k, rfl⟩ := Int.eq_ofNat_of_zero_le hin.1
    have hlt : k < ds.length := by omega
    have HI : Hid ((decide ((0 : Int) ≤ (k : Int)) && decide ((k : Int) < (ds.length : Int))) = true) := by show _ = _; simp; omega
    rw [HI.out] at CR
    obtain ⟨b, off, Ab, cb, An, cn, At, ct, Ak, ck, rfl, hb, hS, hR⟩ := h.at k hlt
    have HV := Lib.hid (limD_in hlt)
    rw [HV.out]
    have hR' := hR.ext eb
    clear hR hS h
    generalize ds[k] = r at *
    obtain ⟨k0, k1, k2, k3, k4, k5, k6, k7⟩ := hR'
    clear k0 k3 k4 k5 k6 k7 hin
    by_cases hk : r.kind = 1
    · by_cases hs : 1 ≤ r.size ∧ r.size ≤ 4
      · have hs4 : r.size = ((1 : Nat) : Int) ∨ r.size = ((2 : Nat) : Int) ∨ r.size = ((3 : Nat) : Int) ∨ r.size = ((4 : Nat) : Int) := by omega
        have CI := Lib.hid (fun w => iInRange_c r.size 1 4 w)
        have HJ : Hid ((decide ((1 : Int) ≤ r.size) && decide (r.size ≤ 4)) = true) := by show _ = _; simp; omega
        rw [HJ.out] at CI
        rcases hs4 with e | e | e | e
        · have HL := Lib.hid (limR_yes hk 1 (by omega) (by omega) e)
          rw [HL.out]
          rw [e] at k2 CI
          rw [hk] at k1
          clear hs hk e HJ
          go_enter Try.func66, Try.ntmps66
          go_wp2_with fail
          refine (CR.out _).mono ?_; rintro _ w1 ⟨rfl, he1⟩
          go_wp2_with fail
          refine (CI.out _).mono ?_; rintro _ w2 ⟨rfl, he2⟩
          have e2 := he1.trans he2
          go_wp2
          go_ret
          exact ⟨ret_i64 (by simp), eb.trans e2⟩
        · have HL := Lib.hid (limR_yes hk 2 (by omega) (by omega) e)
          rw [HL.out]
          rw [e] at k2 CI
          rw [hk] at k1
          clear hs hk e HJ
          go_enter Try.func66, Try.ntmps66
          go_wp2_with fail
          refine (CR.out _).mono ?_; rintro _ w1 ⟨rfl, he1⟩
          go_wp2_with fail
          refine (CI.out _).mono ?_; rintro _ w2 ⟨rfl, he2⟩
          have e2 := he1.trans he2
          go_wp2
          go_ret
          exact ⟨ret_i64 (by simp), eb.trans e2⟩
        · have HL := Lib.hid (limR_yes hk 3 (by omega) (by omega) e)
          rw [HL.out]
          rw [e] at k2 CI
          rw [hk] at k1
          clear hs hk e HJ
          go_enter Try.func66, Try.ntmps66
          go_wp2_with fail
          refine (CR.out _).mono ?_; rintro _ w1 ⟨rfl, he1⟩
          go_wp2_with fail
          refine (CI.out _).mono ?_; rintro _ w2 ⟨rfl, he2⟩
          have e2 := he1.trans he2
          go_wp2
          go_ret
          exact ⟨ret_i64 (by simp), eb.trans e2⟩
        · have HL := Lib.hid (limR_yes hk 4 (by omega) (by omega) e)
          rw [HL.out]
          rw [e] at k2 CI
          rw [hk] at k1
          clear hs hk e HJ
          go_enter Try.func66, Try.ntmps66
          go_wp2_with fail
          refine (CR.out _).mono ?_; rintro _ w1 ⟨rfl, he1⟩
          go_wp2_with fail
          refine (CI.out _).mono ?_; rintro _ w2 ⟨rfl, he2⟩
          have e2 := he1.trans he2
          go_wp2
          go_ret
          exact ⟨ret_i64 (by simp), eb.trans e2⟩
      · have CI := Lib.hid (fun w => iInRange_c r.size 1 4 w)
        have HJ : Hid ((decide ((1 : Int) ≤ r.size) && decide (r.size ≤ 4)) = false) := by show _ = _; rw [Bool.and_eq_false_iff]; simp; omega
        rw [HJ.out] at CI
        have HL := Lib.hid (limR_size hs)
        rw [HL.out]
        rw [hk] at k1
        clear hs hk HJ
        go_enter Try.func66, Try.ntmps66
        go_wp2_with fail
        refine (CR.out _).mono ?_; rintro _ w1 ⟨rfl, he1⟩
        go_wp2_with fail
        refine (CI.out _).mono ?_; rintro _ w2 ⟨rfl, he2⟩
        go_wp2
        go_ret
        exact ⟨rfl, eb.trans (he1.trans he2)⟩
    · have HL := Lib.hid (limR_kind hk)
      rw [HL.out]
      have hk1 : (r.kind != 1) = true := by simpa using hk
      go_enter Try.func66, Try.ntmps66
      go_wp2_with fail
      refine (CR.out _).mono ?_; rintro _ w1 ⟨rfl, he1⟩
      go_wp2
      go_ret
      exact ⟨rfl, eb.trans he1⟩
  · have HI : Hid ((decide ((0 : Int) ≤ i) && decide (i < (ds.length : Int))) = false) := by show _ = _; rw [Bool.and_eq_false_iff]; simp; omega
    rw [HI.out] at CR
    have HL := Lib.hid (limD_out hin)
    rw [HL.out]
    clear hin
    go_enter Try.func66, Try.ntmps66
    go_wp2_with fail
    refine (CR.out _).mono ?_; rintro _ w1 ⟨rfl, he1⟩
    go_wp2
    go_ret
    exact ⟨rfl, eb.trans he1⟩
set_option maxHeartbeats 400000 in
theorem l2PowerN_c (s : Nat) (w : World) (h1 : 1 ≤ s) (h2 : s ≤ 4) : Gives Try.prog 69 #[.int .i64 (s : Int)] w (.int .i64 (256 ^ s)) := by
  rcases (by omega : s = 1 ∨ s = 2 ∨ s = 3 ∨ s = 4) with rfl | rfl | rfl | rfl
  all_goals
    go_enter Try.func69, Try.ntmps69
    go_wp2
    go_ret
    exact ⟨ret_i64 (by simp), Ext.refl _⟩
set_option maxRecDepth 100000 in
set_option maxHeartbeats 2000000 in
theorem sLimit_c (A : Option Addr) (ds : List DRule) (c : Nat) (i : Int) (w : World) (h : RdD w A ds c) :
    Gives Try.prog 61 #[vdesc (.slice A ds.length c), .int .i64 i] w (.int .i64 (limD ds i)) := by
  have hl := h.len
  have eb := Ext_alloc (.cells #[.slice A ds.length c] 26) (Ext.refl w)
  have BX := fun w' (e : Ext (w.alloc (.cells #[.slice A ds.length c] 26)) w') => boxed e 0
  simp only [List.getElem?_toArray, List.getElem?_cons_zero] at BX
  have CR := Lib.hid (fun w => l1In_c i 0 ((ds.length : Int) - 1) w)
  unfold vdesc at *
  by_cases hin : 0 ≤ i ∧ i < ds.length
  · obtain ⟨k, rfl⟩ := Int.eq_ofNat_of_zero_le hin.1
    have hlt : k < ds.length := by omega
    have HI : Hid ((decide ((0 : Int) ≤ (k : Int)) && decide ((k : Int) ≤ (ds.length : Int) - 1)) = true) := by show _ = _; simp; omega
    rw [HI.out] at CR
    obtain ⟨b, off, Ab, cb, An, cn, At, ct, Ak, ck, rfl, hb, hS, hR⟩ := h.at k hlt
    have HV := Lib.hid (limD_in hlt)
    rw [HV.out]
    have hR' := hR.ext eb
    clear hR hS h
    generalize ds[k] = r at *
    obtain ⟨k0, k1, k2, k3, k4, k5, k6, k7⟩ := hR'
    clear k0 k3 k4 k5 k6 k7 hin
    by_cases hk : r.kind = 1
    · by_cases hs : 1 ≤ r.size ∧ r.size ≤ 4
      · have hs4 : r.size = ((1 : Nat) : Int) ∨ r.size = ((2 : Nat) : Int) ∨ r.size = ((3 : Nat) : Int) ∨ r.size = ((4 : Nat) : Int) := by omega
        have CI := Lib.hid (fun w => l1In_c r.size 1 4 w)
        have HJ : Hid ((decide ((1 : Int) ≤ r.size) && decide (r.size ≤ 4)) = true) := by show _ = _; simp; omega
        rw [HJ.out] at CI
        rcases hs4 with e | e | e | e
        · have HL := Lib.hid (limR_yes hk 1 (by omega) (by omega) e)
          rw [HL.out]
          rw [e] at k2 CI
          rw [hk] at k1
          clear hs hk e HJ
          go_enter Try.func61, Try.ntmps61
          go_wp2_with fail
          refine (CR.out _).mono ?_; rintro _ w1 ⟨rfl, he1⟩
          go_wp2_with fail
          refine (CI.out _).mono ?_; rintro _ w2 ⟨rfl, he2⟩
          have e2 := he1.trans he2
          go_wp2_with fail
          refine (l2PowerN_c 1 _ (by omega) (by omega)).mono ?_
          rintro _ w3 ⟨rfl, he3⟩
          have e3 := e2.trans he3
          go_wp2
          go_ret
          exact ⟨ret_i64 (by simp), eb.trans e3⟩
        · have HL := Lib.hid (limR_yes hk 2 (by omega) (by omega) e)
          rw [HL.out]
          rw [e] at k2 CI
          rw [hk] at k1
          clear hs hk e HJ
          go_enter Try.func61, Try.ntmps61
          go_wp2_with fail
          refine (CR.out _).mono ?_; rintro _ w1 ⟨rfl, he1⟩
          go_wp2_with fail
          refine (CI.out _).mono ?_; rintro _ w2 ⟨rfl, he2⟩
          have e2 := he1.trans he2
          go_wp2_with fail
          refine (l2PowerN_c 2 _ (by omega) (by omega)).mono ?_
          rintro _ w3 ⟨rfl, he3⟩
          have e3 := e2.trans he3
          go_wp2
          go_ret
          exact ⟨ret_i64 (by simp), eb.trans e3⟩
        · have HL := Lib.hid (limR_yes hk 3 (by omega) (by omega) e)
          rw [HL.out]
          rw [e] at k2 CI
          rw [hk] at k1
          clear hs hk e HJ
          go_enter Try.func61, Try.ntmps61
          go_wp2_with fail
          refine (CR.out _).mono ?_; rintro _ w1 ⟨rfl, he1⟩
          go_wp2_with fail
          refine (CI.out _).mono ?_; rintro _ w2 ⟨rfl, he2⟩
          have e2 := he1.trans he2
          go_wp2_with fail
          refine (l2PowerN_c 3 _ (by omega) (by omega)).mono ?_
          rintro _ w3 ⟨rfl, he3⟩
          have e3 := e2.trans he3
          go_wp2
          go_ret
          exact ⟨ret_i64 (by simp), eb.trans e3⟩
        · have HL := Lib.hid (limR_yes hk 4 (by omega) (by omega) e)
          rw [HL.out]
          rw [e] at k2 CI
          rw [hk] at k1
          clear hs hk e HJ
          go_enter Try.func61, Try.ntmps61
          go_wp2_with fail
          refine (CR.out _).mono ?_; rintro _ w1 ⟨rfl, he1⟩
          go_wp2_with fail
          refine (CI.out _).mono ?_; rintro _ w2 ⟨rfl, he2⟩
          have e2 := he1.trans he2
          go_wp2_with fail
          refine (l2PowerN_c 4 _ (by omega) (by omega)).mono ?_
          rintro _ w3 ⟨rfl, he3⟩
          have e3 := e2.trans he3
          go_wp2
          go_ret
          exact ⟨ret_i64 (by simp), eb.trans e3⟩
      · have CI := Lib.hid (fun w => l1In_c r.size 1 4 w)
        have HJ : Hid ((decide ((1 : Int) ≤ r.size) && decide (r.size ≤ 4)) = false) := by show _ = _; rw [Bool.and_eq_false_iff]; simp; omega
        rw [HJ.out] at CI
        have HL := Lib.hid (limR_size hs)
        rw [HL.out]
        rw [hk] at k1
        clear hs hk HJ
        go_enter Try.func61, Try.ntmps61
        go_wp2_with fail
        refine (CR.out _).mono ?_; rintro _ w1 ⟨rfl, he1⟩
        go_wp2_with fail
        refine (CI.out _).mono ?_; rintro _ w2 ⟨rfl, he2⟩
        go_wp2
        go_ret
        exact ⟨rfl, eb.trans (he1.trans he2)⟩
    · have HL := Lib.hid (limR_kind hk)
      rw [HL.out]
      have hk1 : (r.kind != 1) = true := by simpa using hk
      go_enter Try.func61, Try.ntmps61
      go_wp2_with fail
      refine (CR.out _).mono ?_; rintro _ w1 ⟨rfl, he1⟩
      go_wp2
      go_ret
      exact ⟨rfl, eb.trans he1⟩
  · have HI : Hid ((decide ((0 : Int) ≤ i) && decide (i ≤ (ds.length : Int) - 1)) = false) := by show _ = _; rw [Bool.and_eq_false_iff]; simp; omega
    rw [HI.out] at CR
    have HL := Lib.hid (limD_out hin)
    rw [HL.out]
    clear hin
    go_enter Try.func61, Try.ntmps61
    go_wp2_with fail
    refine (CR.out _).mono ?_; rintro _ w1 ⟨rfl, he1⟩
    go_wp2
    go_ret
    exact ⟨rfl, eb.trans he1⟩
end Go.Proofs.Ytophjmphjdhjoaa

/- The fields that a rule may have. -/
namespace Go.Proofs.Ytophjmphjdhjoaa
open Go.RowKit Go.Sort

set_option maxHeartbeats 2000000 in
theorem iPlain1000_c (r : DRule) (Ab : Option Addr) (cb : Nat) (An : Option Addr) (cn : Nat) (At : Option Addr) (ct : Nat) (Ak : Option Addr) (ck : Nat) (kids : Int) (w : World) (hl : r.bytes.length ≤ 9223372036854775807 ∧ r.names.length ≤ 9223372036854775807 ∧ r.tags.length ≤ 9223372036854775807 ∧ r.kids.length ≤ 9223372036854775807) :
    Gives Try.prog 65 #[vrule r (.slice Ab r.bytes.length cb) (.slice An r.names.length cn) (.slice At r.tags.length ct) (.slice Ak r.kids.length ck), .bool true, .bool false, .bool false, .bool false, .int .i64 kids] w (.bool (plainB r true false false false kids)) := by
  obtain ⟨l1, l2, l3, l4⟩ := hl
  unfold plainB
  obtain ⟨nm, kind, size, little, bytes, names, tags, kd⟩ := r
  unfold vrule
  dsimp only at *
  cases g_bytes : (bytes.length == 0)
  · have k_bytes : (((bytes.length : Nat) : Int) == 0) = false := by simpa using g_bytes
    go_enter Try.func65, Try.ntmps65
    go_wp2
    go_ret
    exact ⟨ret_bool (by simp [*]), Ext_alloc _ (Ext.refl w)⟩
  have k_bytes : (((bytes.length : Nat) : Int) == 0) = true := by simpa using g_bytes
  cases g_names : (names.length == 0)
  · have k_names : (((names.length : Nat) : Int) == 0) = false := by simpa using g_names
    go_enter Try.func65, Try.ntmps65
    go_wp2
    go_ret
    exact ⟨ret_bool (by simp [*]), Ext_alloc _ (Ext.refl w)⟩
  have k_names : (((names.length : Nat) : Int) == 0) = true := by simpa using g_names
  cases g_tags : (tags.length == 0)
  · have k_tags : (((tags.length : Nat) : Int) == 0) = false := by simpa using g_tags
    go_enter Try.func65, Try.ntmps65
    go_wp2
    go_ret
    exact ⟨ret_bool (by simp [*]), Ext_alloc _ (Ext.refl w)⟩
  have k_tags : (((tags.length : Nat) : Int) == 0) = true := by simpa using g_tags
  by_cases hk : kids < 0
  · have dk : decide (kids < 0) = true := by simpa using hk
    go_enter Try.func65, Try.ntmps65
    go_wp2
    go_ret
    exact ⟨ret_bool (by simp [*]), Ext_alloc _ (Ext.refl w)⟩
  · have dk : decide (kids < 0) = false := by simpa using hk
    by_cases hq : ((kd.length : Int) = kids)
    · have k_kids : ((kd.length : Int) == kids) = true := by simpa using hq
      have HQ := Lib.hid hq; clear hq
      go_enter Try.func65, Try.ntmps65
      go_wp2
      go_ret
      exact ⟨ret_bool (by have := HQ.out; simp [*]), Ext_alloc _ (Ext.refl w)⟩
    · have k_kids : ((kd.length : Int) == kids) = false := by simpa using hq
      go_enter Try.func65, Try.ntmps65
      go_wp2
      go_ret
      exact ⟨ret_bool (by simp [*]), Ext_alloc _ (Ext.refl w)⟩
set_option maxHeartbeats 2000000 in
theorem iPlain0100_c (r : DRule) (Ab : Option Addr) (cb : Nat) (An : Option Addr) (cn : Nat) (At : Option Addr) (ct : Nat) (Ak : Option Addr) (ck : Nat) (kids : Int) (w : World) (hl : r.bytes.length ≤ 9223372036854775807 ∧ r.names.length ≤ 9223372036854775807 ∧ r.tags.length ≤ 9223372036854775807 ∧ r.kids.length ≤ 9223372036854775807) :
    Gives Try.prog 65 #[vrule r (.slice Ab r.bytes.length cb) (.slice An r.names.length cn) (.slice At r.tags.length ct) (.slice Ak r.kids.length ck), .bool false, .bool true, .bool false, .bool false, .int .i64 kids] w (.bool (plainB r false true false false kids)) := by
  obtain ⟨l1, l2, l3, l4⟩ := hl
  unfold plainB
  obtain ⟨nm, kind, size, little, bytes, names, tags, kd⟩ := r
  unfold vrule
  dsimp only at *
  cases g_size : (size == 0)
  · skip
    go_enter Try.func65, Try.ntmps65
    go_wp2
    go_ret
    exact ⟨ret_bool (by simp [*]), Ext_alloc _ (Ext.refl w)⟩
  cases g_names : (names.length == 0)
  · have k_names : (((names.length : Nat) : Int) == 0) = false := by simpa using g_names
    go_enter Try.func65, Try.ntmps65
    go_wp2
    go_ret
    exact ⟨ret_bool (by simp [*]), Ext_alloc _ (Ext.refl w)⟩
  have k_names : (((names.length : Nat) : Int) == 0) = true := by simpa using g_names
  cases g_tags : (tags.length == 0)
  · have k_tags : (((tags.length : Nat) : Int) == 0) = false := by simpa using g_tags
    go_enter Try.func65, Try.ntmps65
    go_wp2
    go_ret
    exact ⟨ret_bool (by simp [*]), Ext_alloc _ (Ext.refl w)⟩
  have k_tags : (((tags.length : Nat) : Int) == 0) = true := by simpa using g_tags
  by_cases hk : kids < 0
  · have dk : decide (kids < 0) = true := by simpa using hk
    go_enter Try.func65, Try.ntmps65
    go_wp2
    go_ret
    exact ⟨ret_bool (by simp [*]), Ext_alloc _ (Ext.refl w)⟩
  · have dk : decide (kids < 0) = false := by simpa using hk
    by_cases hq : ((kd.length : Int) = kids)
    · have k_kids : ((kd.length : Int) == kids) = true := by simpa using hq
      have HQ := Lib.hid hq; clear hq
      go_enter Try.func65, Try.ntmps65
      go_wp2
      go_ret
      exact ⟨ret_bool (by have := HQ.out; simp [*]), Ext_alloc _ (Ext.refl w)⟩
    · have k_kids : ((kd.length : Int) == kids) = false := by simpa using hq
      go_enter Try.func65, Try.ntmps65
      go_wp2
      go_ret
      exact ⟨ret_bool (by simp [*]), Ext_alloc _ (Ext.refl w)⟩
set_option maxHeartbeats 2000000 in
theorem iPlain0000_c (r : DRule) (Ab : Option Addr) (cb : Nat) (An : Option Addr) (cn : Nat) (At : Option Addr) (ct : Nat) (Ak : Option Addr) (ck : Nat) (kids : Int) (w : World) (hl : r.bytes.length ≤ 9223372036854775807 ∧ r.names.length ≤ 9223372036854775807 ∧ r.tags.length ≤ 9223372036854775807 ∧ r.kids.length ≤ 9223372036854775807) :
    Gives Try.prog 65 #[vrule r (.slice Ab r.bytes.length cb) (.slice An r.names.length cn) (.slice At r.tags.length ct) (.slice Ak r.kids.length ck), .bool false, .bool false, .bool false, .bool false, .int .i64 kids] w (.bool (plainB r false false false false kids)) := by
  obtain ⟨l1, l2, l3, l4⟩ := hl
  unfold plainB
  obtain ⟨nm, kind, size, little, bytes, names, tags, kd⟩ := r
  unfold vrule
  dsimp only at *
  cases g_size : (size == 0)
  · skip
    go_enter Try.func65, Try.ntmps65
    go_wp2
    go_ret
    exact ⟨ret_bool (by simp [*]), Ext_alloc _ (Ext.refl w)⟩
  cases g_bytes : (bytes.length == 0)
  · have k_bytes : (((bytes.length : Nat) : Int) == 0) = false := by simpa using g_bytes
    go_enter Try.func65, Try.ntmps65
    go_wp2
    go_ret
    exact ⟨ret_bool (by simp [*]), Ext_alloc _ (Ext.refl w)⟩
  have k_bytes : (((bytes.length : Nat) : Int) == 0) = true := by simpa using g_bytes
  cases g_names : (names.length == 0)
  · have k_names : (((names.length : Nat) : Int) == 0) = false := by simpa using g_names
    go_enter Try.func65, Try.ntmps65
    go_wp2
    go_ret
    exact ⟨ret_bool (by simp [*]), Ext_alloc _ (Ext.refl w)⟩
  have k_names : (((names.length : Nat) : Int) == 0) = true := by simpa using g_names
  cases g_tags : (tags.length == 0)
  · have k_tags : (((tags.length : Nat) : Int) == 0) = false := by simpa using g_tags
    go_enter Try.func65, Try.ntmps65
    go_wp2
    go_ret
    exact ⟨ret_bool (by simp [*]), Ext_alloc _ (Ext.refl w)⟩
  have k_tags : (((tags.length : Nat) : Int) == 0) = true := by simpa using g_tags
  by_cases hk : kids < 0
  · have dk : decide (kids < 0) = true := by simpa using hk
    go_enter Try.func65, Try.ntmps65
    go_wp2
    go_ret
    exact ⟨ret_bool (by simp [*]), Ext_alloc _ (Ext.refl w)⟩
  · have dk : decide (kids < 0) = false := by simpa using hk
    by_cases hq : ((kd.length : Int) = kids)
    · have k_kids : ((kd.length : Int) == kids) = true := by simpa using hq
      have HQ := Lib.hid hq; clear hq
      go_enter Try.func65, Try.ntmps65
      go_wp2
      go_ret
      exact ⟨ret_bool (by have := HQ.out; simp [*]), Ext_alloc _ (Ext.refl w)⟩
    · have k_kids : ((kd.length : Int) == kids) = false := by simpa using hq
      go_enter Try.func65, Try.ntmps65
      go_wp2
      go_ret
      exact ⟨ret_bool (by simp [*]), Ext_alloc _ (Ext.refl w)⟩
set_option maxHeartbeats 2000000 in
theorem iPlain0010_c (r : DRule) (Ab : Option Addr) (cb : Nat) (An : Option Addr) (cn : Nat) (At : Option Addr) (ct : Nat) (Ak : Option Addr) (ck : Nat) (kids : Int) (w : World) (hl : r.bytes.length ≤ 9223372036854775807 ∧ r.names.length ≤ 9223372036854775807 ∧ r.tags.length ≤ 9223372036854775807 ∧ r.kids.length ≤ 9223372036854775807) :
    Gives Try.prog 65 #[vrule r (.slice Ab r.bytes.length cb) (.slice An r.names.length cn) (.slice At r.tags.length ct) (.slice Ak r.kids.length ck), .bool false, .bool false, .bool true, .bool false, .int .i64 kids] w (.bool (plainB r false false true false kids)) := by
  obtain ⟨l1, l2, l3, l4⟩ := hl
  unfold plainB
  obtain ⟨nm, kind, size, little, bytes, names, tags, kd⟩ := r
  unfold vrule
  dsimp only at *
  cases g_size : (size == 0)
  · skip
    go_enter Try.func65, Try.ntmps65
    go_wp2
    go_ret
    exact ⟨ret_bool (by simp [*]), Ext_alloc _ (Ext.refl w)⟩
  cases g_bytes : (bytes.length == 0)
  · have k_bytes : (((bytes.length : Nat) : Int) == 0) = false := by simpa using g_bytes
    go_enter Try.func65, Try.ntmps65
    go_wp2
    go_ret
    exact ⟨ret_bool (by simp [*]), Ext_alloc _ (Ext.refl w)⟩
  have k_bytes : (((bytes.length : Nat) : Int) == 0) = true := by simpa using g_bytes
  cases g_tags : (tags.length == 0)
  · have k_tags : (((tags.length : Nat) : Int) == 0) = false := by simpa using g_tags
    go_enter Try.func65, Try.ntmps65
    go_wp2
    go_ret
    exact ⟨ret_bool (by simp [*]), Ext_alloc _ (Ext.refl w)⟩
  have k_tags : (((tags.length : Nat) : Int) == 0) = true := by simpa using g_tags
  by_cases hk : kids < 0
  · have dk : decide (kids < 0) = true := by simpa using hk
    go_enter Try.func65, Try.ntmps65
    go_wp2
    go_ret
    exact ⟨ret_bool (by simp [*]), Ext_alloc _ (Ext.refl w)⟩
  · have dk : decide (kids < 0) = false := by simpa using hk
    by_cases hq : ((kd.length : Int) = kids)
    · have k_kids : ((kd.length : Int) == kids) = true := by simpa using hq
      have HQ := Lib.hid hq; clear hq
      go_enter Try.func65, Try.ntmps65
      go_wp2
      go_ret
      exact ⟨ret_bool (by have := HQ.out; simp [*]), Ext_alloc _ (Ext.refl w)⟩
    · have k_kids : ((kd.length : Int) == kids) = false := by simpa using hq
      go_enter Try.func65, Try.ntmps65
      go_wp2
      go_ret
      exact ⟨ret_bool (by simp [*]), Ext_alloc _ (Ext.refl w)⟩
set_option maxHeartbeats 2000000 in
theorem iPlain0001_c (r : DRule) (Ab : Option Addr) (cb : Nat) (An : Option Addr) (cn : Nat) (At : Option Addr) (ct : Nat) (Ak : Option Addr) (ck : Nat) (kids : Int) (w : World) (hl : r.bytes.length ≤ 9223372036854775807 ∧ r.names.length ≤ 9223372036854775807 ∧ r.tags.length ≤ 9223372036854775807 ∧ r.kids.length ≤ 9223372036854775807) :
    Gives Try.prog 65 #[vrule r (.slice Ab r.bytes.length cb) (.slice An r.names.length cn) (.slice At r.tags.length ct) (.slice Ak r.kids.length ck), .bool false, .bool false, .bool false, .bool true, .int .i64 kids] w (.bool (plainB r false false false true kids)) := by
  obtain ⟨l1, l2, l3, l4⟩ := hl
  unfold plainB
  obtain ⟨nm, kind, size, little, bytes, names, tags, kd⟩ := r
  unfold vrule
  dsimp only at *
  cases g_size : (size == 0)
  · skip
    go_enter Try.func65, Try.ntmps65
    go_wp2
    go_ret
    exact ⟨ret_bool (by simp [*]), Ext_alloc _ (Ext.refl w)⟩
  cases g_bytes : (bytes.length == 0)
  · have k_bytes : (((bytes.length : Nat) : Int) == 0) = false := by simpa using g_bytes
    go_enter Try.func65, Try.ntmps65
    go_wp2
    go_ret
    exact ⟨ret_bool (by simp [*]), Ext_alloc _ (Ext.refl w)⟩
  have k_bytes : (((bytes.length : Nat) : Int) == 0) = true := by simpa using g_bytes
  cases g_names : (names.length == 0)
  · have k_names : (((names.length : Nat) : Int) == 0) = false := by simpa using g_names
    go_enter Try.func65, Try.ntmps65
    go_wp2
    go_ret
    exact ⟨ret_bool (by simp [*]), Ext_alloc _ (Ext.refl w)⟩
  have k_names : (((names.length : Nat) : Int) == 0) = true := by simpa using g_names
  by_cases hk : kids < 0
  · have dk : decide (kids < 0) = true := by simpa using hk
    go_enter Try.func65, Try.ntmps65
    go_wp2
    go_ret
    exact ⟨ret_bool (by simp [*]), Ext_alloc _ (Ext.refl w)⟩
  · have dk : decide (kids < 0) = false := by simpa using hk
    by_cases hq : ((kd.length : Int) = kids)
    · have k_kids : ((kd.length : Int) == kids) = true := by simpa using hq
      have HQ := Lib.hid hq; clear hq
      go_enter Try.func65, Try.ntmps65
      go_wp2
      go_ret
      exact ⟨ret_bool (by have := HQ.out; simp [*]), Ext_alloc _ (Ext.refl w)⟩
    · have k_kids : ((kd.length : Int) == kids) = false := by simpa using hq
      go_enter Try.func65, Try.ntmps65
      go_wp2
      go_ret
      exact ⟨ret_bool (by simp [*]), Ext_alloc _ (Ext.refl w)⟩
end Go.Proofs.Ytophjmphjdhjoaa

/- The fields that a rule may have, of the reference. -/
namespace Go.Proofs.Ytophjmphjdhjoaa
open Go.RowKit Go.Sort

set_option maxHeartbeats 2000000 in
theorem sShape1000_c (r : DRule) (Ab : Option Addr) (cb : Nat) (An : Option Addr) (cn : Nat) (At : Option Addr) (ct : Nat) (Ak : Option Addr) (ck : Nat) (kids : Int) (w : World) (hl : r.bytes.length ≤ 9223372036854775807 ∧ r.names.length ≤ 9223372036854775807 ∧ r.tags.length ≤ 9223372036854775807 ∧ r.kids.length ≤ 9223372036854775807) :
    Gives Try.prog 60 #[vrule r (.slice Ab r.bytes.length cb) (.slice An r.names.length cn) (.slice At r.tags.length ct) (.slice Ak r.kids.length ck), .bool true, .bool false, .bool false, .bool false, .int .i64 kids] w (.bool (plainB r true false false false kids && (!r.little || r.kind == 1))) := by
  obtain ⟨l1, l2, l3, l4⟩ := hl
  unfold plainB
  obtain ⟨nm, kind, size, little, bytes, names, tags, kd⟩ := r
  unfold vrule
  dsimp only at *
  cases g_bytes : (bytes.length == 0)
  · have k_bytes : (((bytes.length : Nat) : Int) == 0) = false := by simpa using g_bytes
    go_enter Try.func60, Try.ntmps60
    go_wp2
    go_ret
    exact ⟨ret_bool (by simp [*]), Ext_alloc _ (Ext.refl w)⟩
  have k_bytes : (((bytes.length : Nat) : Int) == 0) = true := by simpa using g_bytes
  cases g_names : (names.length == 0)
  · have k_names : (((names.length : Nat) : Int) == 0) = false := by simpa using g_names
    go_enter Try.func60, Try.ntmps60
    go_wp2
    go_ret
    exact ⟨ret_bool (by simp [*]), Ext_alloc _ (Ext.refl w)⟩
  have k_names : (((names.length : Nat) : Int) == 0) = true := by simpa using g_names
  cases g_tags : (tags.length == 0)
  · have k_tags : (((tags.length : Nat) : Int) == 0) = false := by simpa using g_tags
    go_enter Try.func60, Try.ntmps60
    go_wp2
    go_ret
    exact ⟨ret_bool (by simp [*]), Ext_alloc _ (Ext.refl w)⟩
  have k_tags : (((tags.length : Nat) : Int) == 0) = true := by simpa using g_tags
  by_cases hk : kids < 0
  · have dk : decide (kids < 0) = true := by simpa using hk
    cases little
    · go_enter Try.func60, Try.ntmps60
      go_wp2
      go_ret
      exact ⟨ret_bool (by simp [*]), Ext_alloc _ (Ext.refl w)⟩
    · cases g_kind : (kind == 1)
      all_goals
        go_enter Try.func60, Try.ntmps60
        go_wp2
        go_ret
        exact ⟨ret_bool (by simp [*]), Ext_alloc _ (Ext.refl w)⟩
  · have dk : decide (kids < 0) = false := by simpa using hk
    by_cases hq : ((kd.length : Int) = kids)
    · have k_kids : ((kd.length : Int) == kids) = true := by simpa using hq
      have HQ := Lib.hid hq; clear hq
      cases little
      · go_enter Try.func60, Try.ntmps60
        go_wp2
        go_ret
        exact ⟨ret_bool (by have := HQ.out; simp [*]), Ext_alloc _ (Ext.refl w)⟩
      · cases g_kind : (kind == 1)
        all_goals
          go_enter Try.func60, Try.ntmps60
          go_wp2
          go_ret
          exact ⟨ret_bool (by have := HQ.out; simp [*]), Ext_alloc _ (Ext.refl w)⟩
    · have k_kids : ((kd.length : Int) == kids) = false := by simpa using hq
      go_enter Try.func60, Try.ntmps60
      go_wp2
      go_ret
      exact ⟨ret_bool (by simp [*]), Ext_alloc _ (Ext.refl w)⟩
set_option maxHeartbeats 2000000 in
theorem sShape0100_c (r : DRule) (Ab : Option Addr) (cb : Nat) (An : Option Addr) (cn : Nat) (At : Option Addr) (ct : Nat) (Ak : Option Addr) (ck : Nat) (kids : Int) (w : World) (hl : r.bytes.length ≤ 9223372036854775807 ∧ r.names.length ≤ 9223372036854775807 ∧ r.tags.length ≤ 9223372036854775807 ∧ r.kids.length ≤ 9223372036854775807) :
    Gives Try.prog 60 #[vrule r (.slice Ab r.bytes.length cb) (.slice An r.names.length cn) (.slice At r.tags.length ct) (.slice Ak r.kids.length ck), .bool false, .bool true, .bool false, .bool false, .int .i64 kids] w (.bool (plainB r false true false false kids && (!r.little || r.kind == 1))) := by
  obtain ⟨l1, l2, l3, l4⟩ := hl
  unfold plainB
  obtain ⟨nm, kind, size, little, bytes, names, tags, kd⟩ := r
  unfold vrule
  dsimp only at *
  cases g_size : (size == 0)
  · skip
    go_enter Try.func60, Try.ntmps60
    go_wp2
    go_ret
    exact ⟨ret_bool (by simp [*]), Ext_alloc _ (Ext.refl w)⟩
  cases g_names : (names.length == 0)
  · have k_names : (((names.length : Nat) : Int) == 0) = false := by simpa using g_names
    go_enter Try.func60, Try.ntmps60
    go_wp2
    go_ret
    exact ⟨ret_bool (by simp [*]), Ext_alloc _ (Ext.refl w)⟩
  have k_names : (((names.length : Nat) : Int) == 0) = true := by simpa using g_names
  cases g_tags : (tags.length == 0)
  · have k_tags : (((tags.length : Nat) : Int) == 0) = false := by simpa using g_tags
    go_enter Try.func60, Try.ntmps60
    go_wp2
    go_ret
    exact ⟨ret_bool (by simp [*]), Ext_alloc _ (Ext.refl w)⟩
  have k_tags : (((tags.length : Nat) : Int) == 0) = true := by simpa using g_tags
  by_cases hk : kids < 0
  · have dk : decide (kids < 0) = true := by simpa using hk
    cases little
    · go_enter Try.func60, Try.ntmps60
      go_wp2
      go_ret
      exact ⟨ret_bool (by simp [*]), Ext_alloc _ (Ext.refl w)⟩
    · cases g_kind : (kind == 1)
      all_goals
        go_enter Try.func60, Try.ntmps60
        go_wp2
        go_ret
        exact ⟨ret_bool (by simp [*]), Ext_alloc _ (Ext.refl w)⟩
  · have dk : decide (kids < 0) = false := by simpa using hk
    by_cases hq : ((kd.length : Int) = kids)
    · have k_kids : ((kd.length : Int) == kids) = true := by simpa using hq
      have HQ := Lib.hid hq; clear hq
      cases little
      · go_enter Try.func60, Try.ntmps60
        go_wp2
        go_ret
        exact ⟨ret_bool (by have := HQ.out; simp [*]), Ext_alloc _ (Ext.refl w)⟩
      · cases g_kind : (kind == 1)
        all_goals
          go_enter Try.func60, Try.ntmps60
          go_wp2
          go_ret
          exact ⟨ret_bool (by have := HQ.out; simp [*]), Ext_alloc _ (Ext.refl w)⟩
    · have k_kids : ((kd.length : Int) == kids) = false := by simpa using hq
      go_enter Try.func60, Try.ntmps60
      go_wp2
      go_ret
      exact ⟨ret_bool (by simp [*]), Ext_alloc _ (Ext.refl w)⟩
set_option maxHeartbeats 2000000 in
theorem sShape0000_c (r : DRule) (Ab : Option Addr) (cb : Nat) (An : Option Addr) (cn : Nat) (At : Option Addr) (ct : Nat) (Ak : Option Addr) (ck : Nat) (kids : Int) (w : World) (hl : r.bytes.length ≤ 9223372036854775807 ∧ r.names.length ≤ 9223372036854775807 ∧ r.tags.length ≤ 9223372036854775807 ∧ r.kids.length ≤ 9223372036854775807) :
    Gives Try.prog 60 #[vrule r (.slice Ab r.bytes.length cb) (.slice An r.names.length cn) (.slice At r.tags.length ct) (.slice Ak r.kids.length ck), .bool false, .bool false, .bool false, .bool false, .int .i64 kids] w (.bool (plainB r false false false false kids && (!r.little || r.kind == 1))) := by
  obtain ⟨l1, l2, l3, l4⟩ := hl
  unfold plainB
  obtain ⟨nm, kind, size, little, bytes, names, tags, kd⟩ := r
  unfold vrule
  dsimp only at *
  cases g_size : (size == 0)
  · skip
    go_enter Try.func60, Try.ntmps60
    go_wp2
    go_ret
    exact ⟨ret_bool (by simp [*]), Ext_alloc _ (Ext.refl w)⟩
  cases g_bytes : (bytes.length == 0)
  · have k_bytes : (((bytes.length : Nat) : Int) == 0) = false := by simpa using g_bytes
    go_enter Try.func60, Try.ntmps60
    go_wp2
    go_ret
    exact ⟨ret_bool (by simp [*]), Ext_alloc _ (Ext.refl w)⟩
  have k_bytes : (((bytes.length : Nat) : Int) == 0) = true := by simpa using g_bytes
  cases g_names : (names.length == 0)
  · have k_names : (((names.length : Nat) : Int) == 0) = false := by simpa using g_names
    go_enter Try.func60, Try.ntmps60
    go_wp2
    go_ret
    exact ⟨ret_bool (by simp [*]), Ext_alloc _ (Ext.refl w)⟩
  have k_names : (((names.length : Nat) : Int) == 0) = true := by simpa using g_names
  cases g_tags : (tags.length == 0)
  · have k_tags : (((tags.length : Nat) : Int) == 0) = false := by simpa using g_tags
    go_enter Try.func60, Try.ntmps60
    go_wp2
    go_ret
    exact ⟨ret_bool (by simp [*]), Ext_alloc _ (Ext.refl w)⟩
  have k_tags : (((tags.length : Nat) : Int) == 0) = true := by simpa using g_tags
  by_cases hk : kids < 0
  · have dk : decide (kids < 0) = true := by simpa using hk
    cases little
    · go_enter Try.func60, Try.ntmps60
      go_wp2
      go_ret
      exact ⟨ret_bool (by simp [*]), Ext_alloc _ (Ext.refl w)⟩
    · cases g_kind : (kind == 1)
      all_goals
        go_enter Try.func60, Try.ntmps60
        go_wp2
        go_ret
        exact ⟨ret_bool (by simp [*]), Ext_alloc _ (Ext.refl w)⟩
  · have dk : decide (kids < 0) = false := by simpa using hk
    by_cases hq : ((kd.length : Int) = kids)
    · have k_kids : ((kd.length : Int) == kids) = true := by simpa using hq
      have HQ := Lib.hid hq; clear hq
      cases little
      · go_enter Try.func60, Try.ntmps60
        go_wp2
        go_ret
        exact ⟨ret_bool (by have := HQ.out; simp [*]), Ext_alloc _ (Ext.refl w)⟩
      · cases g_kind : (kind == 1)
        all_goals
          go_enter Try.func60, Try.ntmps60
          go_wp2
          go_ret
          exact ⟨ret_bool (by have := HQ.out; simp [*]), Ext_alloc _ (Ext.refl w)⟩
    · have k_kids : ((kd.length : Int) == kids) = false := by simpa using hq
      go_enter Try.func60, Try.ntmps60
      go_wp2
      go_ret
      exact ⟨ret_bool (by simp [*]), Ext_alloc _ (Ext.refl w)⟩
set_option maxHeartbeats 2000000 in
theorem sShape0010_c (r : DRule) (Ab : Option Addr) (cb : Nat) (An : Option Addr) (cn : Nat) (At : Option Addr) (ct : Nat) (Ak : Option Addr) (ck : Nat) (kids : Int) (w : World) (hl : r.bytes.length ≤ 9223372036854775807 ∧ r.names.length ≤ 9223372036854775807 ∧ r.tags.length ≤ 9223372036854775807 ∧ r.kids.length ≤ 9223372036854775807) :
    Gives Try.prog 60 #[vrule r (.slice Ab r.bytes.length cb) (.slice An r.names.length cn) (.slice At r.tags.length ct) (.slice Ak r.kids.length ck), .bool false, .bool false, .bool true, .bool false, .int .i64 kids] w (.bool (plainB r false false true false kids && (!r.little || r.kind == 1))) := by
  obtain ⟨l1, l2, l3, l4⟩ := hl
  unfold plainB
  obtain ⟨nm, kind, size, little, bytes, names, tags, kd⟩ := r
  unfold vrule
  dsimp only at *
  cases g_size : (size == 0)
  · skip
    go_enter Try.func60, Try.ntmps60
    go_wp2
    go_ret
    exact ⟨ret_bool (by simp [*]), Ext_alloc _ (Ext.refl w)⟩
  cases g_bytes : (bytes.length == 0)
  · have k_bytes : (((bytes.length : Nat) : Int) == 0) = false := by simpa using g_bytes
    go_enter Try.func60, Try.ntmps60
    go_wp2
    go_ret
    exact ⟨ret_bool (by simp [*]), Ext_alloc _ (Ext.refl w)⟩
  have k_bytes : (((bytes.length : Nat) : Int) == 0) = true := by simpa using g_bytes
  cases g_tags : (tags.length == 0)
  · have k_tags : (((tags.length : Nat) : Int) == 0) = false := by simpa using g_tags
    go_enter Try.func60, Try.ntmps60
    go_wp2
    go_ret
    exact ⟨ret_bool (by simp [*]), Ext_alloc _ (Ext.refl w)⟩
  have k_tags : (((tags.length : Nat) : Int) == 0) = true := by simpa using g_tags
  by_cases hk : kids < 0
  · have dk : decide (kids < 0) = true := by simpa using hk
    cases little
    · go_enter Try.func60, Try.ntmps60
      go_wp2
      go_ret
      exact ⟨ret_bool (by simp [*]), Ext_alloc _ (Ext.refl w)⟩
    · cases g_kind : (kind == 1)
      all_goals
        go_enter Try.func60, Try.ntmps60
        go_wp2
        go_ret
        exact ⟨ret_bool (by simp [*]), Ext_alloc _ (Ext.refl w)⟩
  · have dk : decide (kids < 0) = false := by simpa using hk
    by_cases hq : ((kd.length : Int) = kids)
    · have k_kids : ((kd.length : Int) == kids) = true := by simpa using hq
      have HQ := Lib.hid hq; clear hq
      cases little
      · go_enter Try.func60, Try.ntmps60
        go_wp2
        go_ret
        exact ⟨ret_bool (by have := HQ.out; simp [*]), Ext_alloc _ (Ext.refl w)⟩
      · cases g_kind : (kind == 1)
        all_goals
          go_enter Try.func60, Try.ntmps60
          go_wp2
          go_ret
          exact ⟨ret_bool (by have := HQ.out; simp [*]), Ext_alloc _ (Ext.refl w)⟩
    · have k_kids : ((kd.length : Int) == kids) = false := by simpa using hq
      go_enter Try.func60, Try.ntmps60
      go_wp2
      go_ret
      exact ⟨ret_bool (by simp [*]), Ext_alloc _ (Ext.refl w)⟩
set_option maxHeartbeats 2000000 in
theorem sShape0001_c (r : DRule) (Ab : Option Addr) (cb : Nat) (An : Option Addr) (cn : Nat) (At : Option Addr) (ct : Nat) (Ak : Option Addr) (ck : Nat) (kids : Int) (w : World) (hl : r.bytes.length ≤ 9223372036854775807 ∧ r.names.length ≤ 9223372036854775807 ∧ r.tags.length ≤ 9223372036854775807 ∧ r.kids.length ≤ 9223372036854775807) :
    Gives Try.prog 60 #[vrule r (.slice Ab r.bytes.length cb) (.slice An r.names.length cn) (.slice At r.tags.length ct) (.slice Ak r.kids.length ck), .bool false, .bool false, .bool false, .bool true, .int .i64 kids] w (.bool (plainB r false false false true kids && (!r.little || r.kind == 1))) := by
  obtain ⟨l1, l2, l3, l4⟩ := hl
  unfold plainB
  obtain ⟨nm, kind, size, little, bytes, names, tags, kd⟩ := r
  unfold vrule
  dsimp only at *
  cases g_size : (size == 0)
  · skip
    go_enter Try.func60, Try.ntmps60
    go_wp2
    go_ret
    exact ⟨ret_bool (by simp [*]), Ext_alloc _ (Ext.refl w)⟩
  cases g_bytes : (bytes.length == 0)
  · have k_bytes : (((bytes.length : Nat) : Int) == 0) = false := by simpa using g_bytes
    go_enter Try.func60, Try.ntmps60
    go_wp2
    go_ret
    exact ⟨ret_bool (by simp [*]), Ext_alloc _ (Ext.refl w)⟩
  have k_bytes : (((bytes.length : Nat) : Int) == 0) = true := by simpa using g_bytes
  cases g_names : (names.length == 0)
  · have k_names : (((names.length : Nat) : Int) == 0) = false := by simpa using g_names
    go_enter Try.func60, Try.ntmps60
    go_wp2
    go_ret
    exact ⟨ret_bool (by simp [*]), Ext_alloc _ (Ext.refl w)⟩
  have k_names : (((names.length : Nat) : Int) == 0) = true := by simpa using g_names
  by_cases hk : kids < 0
  · have dk : decide (kids < 0) = true := by simpa using hk
    cases little
    · go_enter Try.func60, Try.ntmps60
      go_wp2
      go_ret
      exact ⟨ret_bool (by simp [*]), Ext_alloc _ (Ext.refl w)⟩
    · cases g_kind : (kind == 1)
      all_goals
        go_enter Try.func60, Try.ntmps60
        go_wp2
        go_ret
        exact ⟨ret_bool (by simp [*]), Ext_alloc _ (Ext.refl w)⟩
  · have dk : decide (kids < 0) = false := by simpa using hk
    by_cases hq : ((kd.length : Int) = kids)
    · have k_kids : ((kd.length : Int) == kids) = true := by simpa using hq
      have HQ := Lib.hid hq; clear hq
      cases little
      · go_enter Try.func60, Try.ntmps60
        go_wp2
        go_ret
        exact ⟨ret_bool (by have := HQ.out; simp [*]), Ext_alloc _ (Ext.refl w)⟩
      · cases g_kind : (kind == 1)
        all_goals
          go_enter Try.func60, Try.ntmps60
          go_wp2
          go_ret
          exact ⟨ret_bool (by have := HQ.out; simp [*]), Ext_alloc _ (Ext.refl w)⟩
    · have k_kids : ((kd.length : Int) == kids) = false := by simpa using hq
      go_enter Try.func60, Try.ntmps60
      go_wp2
      go_ret
      exact ⟨ret_bool (by simp [*]), Ext_alloc _ (Ext.refl w)⟩
end Go.Proofs.Ytophjmphjdhjoaa
