/- (*differ).compare of the program: the walk. -/
import Derived.Test.YtjckcbfpejcpcaaGreatDoorZCz6
set_option linter.unusedVariables false
set_option linter.unusedSimpArgs false
set_option linter.unusedSimpArgs false
set_option linter.unusedVariables false
namespace Go.Proofs.YtjckcbfpejcpcaaGreatDoor
open Go.RowKit Go.Sort

def iCmpOk (A : Option Addr) (ds : List DRule) (c : Nat) (a : DVal) : Prop := ∀ (i : Nat) (_ : i < ds.length) (b : DVal) (Aa : Option Addr) (ca : Nat) (Ia : Option Addr) (ia : Nat) (Ab : Option Addr) (cb : Nat) (Ib : Option Addr) (ib : Nat) (g1 o1 g2 o2 : Nat) (p : ByteArray) (Wb w : World) (gx bm : Nat) (vs : List Value),
  RdD Wb A ds c → RdV Wb a Aa ca Ia ia → RdV Wb b Ab cb Ib ib → ValAt Wb g1 o1 a (.slice Aa a.bytes.length ca) (.slice Ia a.items.length ia) → ValAt Wb g2 o2 b (.slice Ab b.bytes.length cb) (.slice Ib b.items.length ib) → Ext Wb w → Tab Wb → Wb.heap.size ≤ bm →
  Box w gx #[.slice A ds.length c, .map (some bm)] 72 → bm ≠ gx → NumMap w bm vs → validV ds i a = true → validV ds i b = true → szV a ≤ 1048576 → szV b ≤ 1048576 → vs.length + szV a ≤ 4000000 → p.size + 22 * (i + 1) ≤ 1000 →
  Calls Tryz.prog 37 #[.pointer (some ⟨gx, 0, none⟩), .int .i64 (i : Int), .pointer (some ⟨g1, o1, none⟩), .pointer (some ⟨g2, o2, none⟩), .string p] w fun e w' => e = .returned (.tuple #[]) ∧ ∃ ts, chOf ts = diffV ds i a b p ∧ NumMap w' bm (vs ++ ts.map chV) ∧ (∀ t ∈ ts, OwnT w w' t.2) ∧ Far (cvals ts) ∧ w.grownBy w' (some bm)
set_option maxRecDepth 100000 in
set_option maxHeartbeats 8000000 in
theorem iCmp_of (A : Option Addr) (ds : List DRule) (c : Nat) (hok : descOk ds = true) (hs : ShortD ds) (hw : WfD ds) (a : DVal) (H : ∀ x ∈ a.items, iCmpOk A ds c x) : iCmpOk A ds c a := by
  intro i hi b Aa ca Ia ia Ab cb Ib ib g1 o1 g2 o2 p Wb w gx bm vs hd ha hb hat1 hat2 he hT hbm hbx hne hnm hva hvb hsa hsb hlv hp
  have hl := hd.len
  have HD := Lib.hid hd; have HA := Lib.hid ha; have HB := Lib.hid hb
  have hal := ha.b.len; have hail := ha.i.len; have hbl := hb.b.len; have hbil := hb.i.len
  have CQ := Lib.hid (fun w (e : Ext Wb w) => iEqV_all a b Aa ca Ia ia Ab cb Ib ib w (HA.out.ext e) (HB.out.ext e) (by omega) (by omega))
  have HBA : Hid (∀ w', Ext Wb w' → Bs w' Aa a.bytes ca) := fun w' e => (HA.out.ext e).b.bs (bytes_le a) (by omega)
  have HBB : Hid (∀ w', Ext Wb w' → Bs w' Ab b.bytes cb) := fun w' e => (HB.out.ext e).b.bs (bytes_le b) (by omega)
  have CB := Lib.hid (fun w (e : Ext Wb w) => iEqualBytes_c Aa Ab a.bytes b.bytes ca cb w (HBA.out w e) (HBB.out w e))
  have CC := Lib.hid (fun w (e : Ext Wb w) => iCopy_all b Ab cb Ib ib w (HB.out.ext e) hsb)
  have HNM := Lib.hid hnm; have HBX := Lib.hid hbx; have HTAB := Lib.hid hT; have HBM := Lib.hid hbm; have HNE := Lib.hid hne; have HLV := Lib.hid hlv
  obtain ⟨u0, u1, u2⟩ := hat1
  obtain ⟨v0, v1, v2⟩ := hat2
  clear hd ha hb hnm hbx hT hbm hne hlv
  unfold vval at *
  cases heq : eqV a b
  · have HWH : Hid (alikeV a b = false → diffV ds i a b p = [(p, b)]) := fun h => diffV_whole heq h
    have HIT : Hid (alikeV a b = true → diffV ds i a b p = diffVs ds ds[i] a.num 0 a.items b.items p) := fun h => diffV_items hi heq h
    rw [heq] at CQ
    have HNO : Hid ((a.num != b.num) = true ∨ (a.bytes == b.bytes) = false ∨ a.items.length ≠ b.items.length ∨ a.items.length = 0 → diffV ds i a b p = [(p, b)]) := fun h => HWH.out (alikeV_no h)
    have HYES : Hid ((a.num != b.num) = false → (a.bytes == b.bytes) = true → a.items.length = b.items.length → a.items.length ≠ 0 → diffV ds i a b p = diffVs ds ds[i] a.num 0 a.items b.items p) := fun h1 h2 h3 h4 => HIT.out (alikeV_yes h1 h2 h3 h4)
    clear heq HWH HIT
    generalize hDD : diffV ds i a b p = DD at *
    clear hDD
    cases hq1 : (a.num != b.num)
    · have HQ1 := Lib.hid hq1
      cases hq2 : (a.bytes == b.bytes)
      · have HE := Lib.hid (HNO.out (.inr (.inl hq2)))
        rw [hq2] at CB
        clear HNO HYES hq2
        go_enter Tryz.func37, Tryz.ntmps37
        go_wp2_with fail
        refine wp_region_quiet_below (by kernel_rfl) (by kernel_rfl) ?_
        repeat (go_big_quiet_step ((go_at_call 67; exact Calls.regrown_of (CQ.out _ (Ext.trans he (by first | assumption | exact Ext_regrown _ _ (Ext.refl _)))))))
        refine wpQuiet_nil ?_
        rintro w1 ⟨⟨nq, osq⟩, hq⟩
        have ew1 := ext_of_q hq
        clear hq nq osq
        have he1 := he.trans ew1
        go_wp2_with fail
        refine wp_region_quiet_below (by kernel_rfl) (by kernel_rfl) ?_
        repeat (go_big_quiet_step ((go_at_call 68; exact Calls.regrown_of (CB.out _ (Ext.trans he1 (by first | assumption | exact Ext_regrown _ _ (Ext.refl _)))))))
        refine wpQuiet_nil ?_
        rintro w2 ⟨⟨nq, osq⟩, hq⟩
        have ew2 := ext_of_q hq
        clear hq nq osq
        have he2 := he1.trans ew2
        have e02 := ew1.trans ew2
        have HNM2 := Lib.hid (HNM.out.ext e02)
        have HBX2 := Lib.hid (HBX.out.ext e02)
        have HLEN : ∀ w', Ext w2 w' → ∀ ty, (Builtin.len_ #[70] ty #[.map (some bm)]).run Tryz.prog w' = .ok (.int .i64 (vs.length : Int)) w' := fun w' e ty => (HNM2.out.ext e).len ty
        have SX : Hid (∀ w', Ext Wb w' → Box w' gx #[.slice A ds.length c, .map (some bm)] 72 → (w'.cell? ⟨gx, 1, none⟩ = some (.map (some bm)) ∧ w'.cell? ⟨g2, o2, none⟩ = some (.int .i64 b.num) ∧ w'.cell? ⟨g2, o2 + 1, none⟩ = some (.slice Ab b.bytes.length cb) ∧ w'.cell? ⟨g2, o2 + 2, none⟩ = some (.slice Ib b.items.length ib)) ∧ Ext Wb w' ∧ Box w' gx #[.slice A ds.length c, .map (some bm)] 72) := fun w' e b => ⟨⟨b.cell 1, v0 w' e, v1 w' e, v2 w' e⟩, e, b⟩
        have hed := Ext_drew he2
        have hbd := HBX2.out.dr
        have HXD : Ext w2 w2.drew := Ext_drew (Ext.refl w2)
        have HVS : Hid (vs.length < 140737488351232) := by have := HLV.out; show _ < _; omega
        go_wp2_with fail
        have HSD := Lib.hid (SX.out _ hed hbd)
        have HAB : lv2 (fun w' => w'.cell? ⟨gx, 1, none⟩ = some (.map (some bm)) ∧ w'.cell? ⟨g2, o2, none⟩ = some (.int .i64 b.num) ∧ w'.cell? ⟨g2, o2 + 1, none⟩ = some (.slice Ab b.bytes.length cb) ∧ w'.cell? ⟨g2, o2 + 2, none⟩ = some (.slice Ib b.items.length ib)) (fun w' => ∀ ty, (Builtin.len_ #[70] ty #[.map (some bm)]).run Tryz.prog w' = .ok (.int .i64 (vs.length : Int)) w') 2 w2.drew := ⟨HSD.out.1, HLEN _ HXD⟩
        refine wp_region_C (C := fun j => lv2 (fun w' => w'.cell? ⟨gx, 1, none⟩ = some (.map (some bm)) ∧ w'.cell? ⟨g2, o2, none⟩ = some (.int .i64 b.num) ∧ w'.cell? ⟨g2, o2 + 1, none⟩ = some (.slice Ab b.bytes.length cb) ∧ w'.cell? ⟨g2, o2 + 2, none⟩ = some (.slice Ib b.items.length ib)) (fun w' => ∀ ty, (Builtin.len_ #[70] ty #[.map (some bm)]).run Tryz.prog w' = .ok (.int .i64 (vs.length : Int)) w') (([0, 0, 0, 1, 0, 0, 0, 1, 2, 2, 0, 0, 0, 1, 2, 2, 0] : List Nat).getD j 0)) (by kernel_rfl) ?_
        refine wpAnyC_take 0 (i := 0) (v := ?_) (lv2_mono _ _) rfl (by kernel_rfl) (by kernel_rfl) (by kernel_rfl) (by kernel_rfl) (by kernel_rfl) (fun _ _ _ h => h) trivial (Or.inl ⟨by rfl, ?_⟩) ?_
        rotate_left
        · (intro w hSw; clear hSw; go_simp; try with_reducible rfl)
        try simp only [Act.put, List.setIfInBounds_toArray, List.set_cons_zero, List.set_cons_succ]
        refine wpAnyC_take 0 (i := 1) (v := ?_) (lv2_mono _ _) rfl (by kernel_rfl) (by kernel_rfl) (by kernel_rfl) (by kernel_rfl) (by kernel_rfl) (fun _ _ _ h => h) trivial (Or.inl ⟨by rfl, ?_⟩) ?_
        rotate_left
        · (intro w hSw; clear hSw; go_simp; try with_reducible rfl)
        try simp only [Act.put, List.setIfInBounds_toArray, List.set_cons_zero, List.set_cons_succ]
        refine wpAnyC_take 0 (i := 2) (v := ?_) (lv2_mono _ _) rfl (by kernel_rfl) (by kernel_rfl) (by kernel_rfl) (by kernel_rfl) (by kernel_rfl) (fun _ _ _ h => h) trivial (Or.inl ⟨by rfl, ?_⟩) ?_
        rotate_left
        · (intro w hSw; clear hSw; go_simp; try with_reducible rfl)
        try simp only [Act.put, List.setIfInBounds_toArray, List.set_cons_zero, List.set_cons_succ]
        refine wpAnyC_take 0 (i := 4) (v := ?_) (lv2_mono _ _) rfl (by kernel_rfl) (by kernel_rfl) (by kernel_rfl) (by kernel_rfl) (by kernel_rfl) (fun _ _ _ h => h) trivial (Or.inl ⟨by rfl, ?_⟩) ?_
        rotate_left
        · (intro w hSw; clear hSw; go_simp; try with_reducible rfl)
        try simp only [Act.put, List.setIfInBounds_toArray, List.set_cons_zero, List.set_cons_succ]
        refine wpAnyC_take 0 (i := 5) (v := ?_) (lv2_mono _ _) rfl (by kernel_rfl) (by kernel_rfl) (by kernel_rfl) (by kernel_rfl) (by kernel_rfl) (fun _ _ _ h => h) trivial (Or.inl ⟨by rfl, ?_⟩) ?_
        rotate_left
        · (intro w hSw; clear hSw; go_simp; try with_reducible rfl)
        try simp only [Act.put, List.setIfInBounds_toArray, List.set_cons_zero, List.set_cons_succ]
        refine wpAnyC_take 0 (i := 6) (v := ?_) (lv2_mono _ _) rfl (by kernel_rfl) (by kernel_rfl) (by kernel_rfl) (by kernel_rfl) (by kernel_rfl) (fun _ _ _ h => h) trivial (Or.inl ⟨by rfl, ?_⟩) ?_
        rotate_left
        · (intro w hSw; clear hSw; go_simp; try with_reducible rfl)
        try simp only [Act.put, List.setIfInBounds_toArray, List.set_cons_zero, List.set_cons_succ]
        refine wpAnyC_take 0 (i := 10) (v := ?_) (lv2_mono _ _) rfl (by kernel_rfl) (by kernel_rfl) (by kernel_rfl) (by kernel_rfl) (by kernel_rfl) (fun _ _ _ h => h) trivial (Or.inl ⟨by rfl, ?_⟩) ?_
        rotate_left
        · (intro w hSw; clear hSw; go_simp; try with_reducible rfl)
        try simp only [Act.put, List.setIfInBounds_toArray, List.set_cons_zero, List.set_cons_succ]
        refine wpAnyC_take 0 (i := 11) (v := ?_) (lv2_mono _ _) rfl (by kernel_rfl) (by kernel_rfl) (by kernel_rfl) (by kernel_rfl) (by kernel_rfl) (fun _ _ _ h => h) trivial (Or.inl ⟨by rfl, ?_⟩) ?_
        rotate_left
        · (intro w hSw; clear hSw; go_simp; try with_reducible rfl)
        try simp only [Act.put, List.setIfInBounds_toArray, List.set_cons_zero, List.set_cons_succ]
        refine wpAnyC_take 0 (i := 12) (v := ?_) (lv2_mono _ _) rfl (by kernel_rfl) (by kernel_rfl) (by kernel_rfl) (by kernel_rfl) (by kernel_rfl) (fun _ _ _ h => h) trivial (Or.inl ⟨by rfl, ?_⟩) ?_
        rotate_left
        · (intro w hSw; clear hSw; go_simp; try with_reducible rfl)
        try simp only [Act.put, List.setIfInBounds_toArray, List.set_cons_zero, List.set_cons_succ]
        refine wpAnyC_take 1 (i := 3) (v := ?_) (lv2_mono _ _) rfl (by kernel_rfl) (by kernel_rfl) (by kernel_rfl) (by kernel_rfl) (by kernel_rfl) (fun _ _ _ h => h) (And.left HAB) (Or.inl ⟨by rfl, ?_⟩) ?_
        rotate_left
        · (intro w hSw; have hfact : w.cell? ⟨gx, 1, none⟩ = some (.map (some bm)) ∧ w.cell? ⟨g2, o2, none⟩ = some (.int .i64 b.num) ∧ w.cell? ⟨g2, o2 + 1, none⟩ = some (.slice Ab b.bytes.length cb) ∧ w.cell? ⟨g2, o2 + 2, none⟩ = some (.slice Ib b.items.length ib) := hSw; clear hSw; go_simp; try with_reducible rfl)
        try simp only [Act.put, List.setIfInBounds_toArray, List.set_cons_zero, List.set_cons_succ]
        refine wpAnyC_take 1 (i := 7) (v := ?_) (lv2_mono _ _) rfl (by kernel_rfl) (by kernel_rfl) (by kernel_rfl) (by kernel_rfl) (by kernel_rfl) (fun _ _ _ h => h) (And.left HAB) (Or.inl ⟨by rfl, ?_⟩) ?_
        rotate_left
        · (intro w hSw; have hfact : w.cell? ⟨gx, 1, none⟩ = some (.map (some bm)) ∧ w.cell? ⟨g2, o2, none⟩ = some (.int .i64 b.num) ∧ w.cell? ⟨g2, o2 + 1, none⟩ = some (.slice Ab b.bytes.length cb) ∧ w.cell? ⟨g2, o2 + 2, none⟩ = some (.slice Ib b.items.length ib) := hSw; clear hSw; go_simp; try with_reducible rfl)
        try simp only [Act.put, List.setIfInBounds_toArray, List.set_cons_zero, List.set_cons_succ]
        refine wpAnyC_take 1 (i := 13) (v := ?_) (lv2_mono _ _) rfl (by kernel_rfl) (by kernel_rfl) (by kernel_rfl) (by kernel_rfl) (by kernel_rfl) (fun _ _ _ h => h) (And.left HAB) (Or.inl ⟨by rfl, ?_⟩) ?_
        rotate_left
        · (intro w hSw; have hfact : w.cell? ⟨gx, 1, none⟩ = some (.map (some bm)) ∧ w.cell? ⟨g2, o2, none⟩ = some (.int .i64 b.num) ∧ w.cell? ⟨g2, o2 + 1, none⟩ = some (.slice Ab b.bytes.length cb) ∧ w.cell? ⟨g2, o2 + 2, none⟩ = some (.slice Ib b.items.length ib) := hSw; clear hSw; go_simp; try with_reducible rfl)
        try simp only [Act.put, List.setIfInBounds_toArray, List.set_cons_zero, List.set_cons_succ]
        refine wpAnyC_take 2 (i := 8) (v := ?_) (lv2_mono _ _) rfl (by kernel_rfl) (by kernel_rfl) (by kernel_rfl) (by kernel_rfl) (by kernel_rfl) (fun _ _ _ h => h) (HAB) (Or.inl ⟨by rfl, ?_⟩) ?_
        rotate_left
        · (intro w hSw; have hfact := hSw.2; clear hSw; go_simp; try with_reducible rfl)
        try simp only [Act.put, List.setIfInBounds_toArray, List.set_cons_zero, List.set_cons_succ]
        refine wpAnyC_take 2 (i := 9) (v := ?_) (lv2_mono _ _) rfl (by kernel_rfl) (by kernel_rfl) (by kernel_rfl) (by kernel_rfl) (by kernel_rfl) (fun _ _ _ h => h) (HAB) (Or.inl ⟨by rfl, ?_⟩) ?_
        rotate_left
        · (intro w hSw; clear hSw; go_simp; try with_reducible rfl)
        try simp only [Act.put, List.setIfInBounds_toArray, List.set_cons_zero, List.set_cons_succ]
        refine wpAnyC_one (i := 14) (by kernel_rfl) rfl (fun K hK => ?_)
        go_simp
        go_at_call 52
        refine (CC.out _ HSD.out.2.1).mono ?_
        rintro _ w7 ⟨t, rfl, hgt, he7⟩
        have hgt := Lib.hid hgt
        have hE7 := HSD.out.2.1.trans he7
        have hB7 := HSD.out.2.2.ext he7
        have hall : Ext w2 w7 := HXD.trans he7
        have hput := NumMap.put (HNM2.out.ext hall) HVS.out (.agg #[.string p, .int .i64 b.num, t.vb, t.vi])
        obtain ⟨w8, hup, hnm8, hg8⟩ := hput
        unfold numV at hup
        have HNM8 := Lib.hid hnm8
        have HG8 := Lib.hid hg8
        have hE8 : Ext Wb w8 := hE7.grown hg8 (fun k hk => by injection hk with hk; have := HBM.out; omega)
        have hB8 : Box w8 gx #[.slice A ds.length c, .map (some bm)] 72 := Box.moved hB7 hg8 (fun hh => by injection hh with hh; exact HNE.out hh)
        have HL7 := Lib.hid (And.intro (SX.out _ hE7 hB7).1 (HLEN _ hall))
        clear hnm8 hg8
        refine Shut.out hK _ _ HL7.out ?_
        try simp only [Act.put, List.setIfInBounds_toArray, List.set_cons_zero, List.set_cons_succ]
        refine wpAnyC_one (i := 15) (by kernel_rfl) rfl (fun K hK => ?_)
        go_simp
        refine Shut.out hK _ _ HL7.out ?_
        try simp only [Act.put, List.setIfInBounds_toArray, List.set_cons_zero, List.set_cons_succ]
        refine wpAnyC_one (i := 16) (by kernel_rfl) rfl (fun K hK => ?_)
        go_simp
        refine Shut.out hK _ _ trivial ?_
        try simp only [Act.put, List.setIfInBounds_toArray, List.set_cons_zero, List.set_cons_succ]
        refine wpAnyC_done (by kernel_rfl) ?_ _
        all_goals
          go_wp2
          have hgr : w.grownBy w8 (some bm) := (grown_ext (e02.trans hall) _).trans HG8.out
          have hbl := hgt.out.own.block
          have hms : bm < w.heap.size := HNM.out.lt
          have hsz2 : w.heap.size ≤ w2.drew.heap.size := e02.size
          refine And.intro (show _ = [] from rfl) ⟨.tuple #[], by simp [results, Tryz.results37, go_sem], ?_⟩
          refine ⟨rfl, [(p, t)], by rw [HE.out]; show [(p, t.val)] = _; rw [hgt.out.val], ?_, ?_, ?_, hgr⟩
          · have := HNM8.out
            rw [← hgt.out.num] at this
            exact this
          · intro t' ht'
            obtain rfl := List.mem_singleton.1 ht'
            exact (hgt.out.own.keep HG8.out (fun u hu g hg hh => by injection hh with hh; have := hbl u hu g hg; omega)).down hsz2
          · have : cvals [(p, t)] = t.vals := by simp [cvals]
            rw [this]; exact hgt.out.far
      · have HQ2 := Lib.hid hq2
        rw [hq2] at CB
        clear hq2
        by_cases hn : a.items.length = b.items.length
        · have hb1 : ((a.items.length : Int) != (b.items.length : Int)) = false := by simp [hn]
          by_cases h0 : a.items.length = 0
          · have HE := Lib.hid (HNO.out (.inr (.inr (.inr h0))))
            have hz : ((a.items.length : Int) == 0) = true := by rw [h0]; rfl
            clear HNO HYES h0 hn
            go_enter Tryz.func37, Tryz.ntmps37
            go_wp2_with fail
            refine wp_region_quiet_below (by kernel_rfl) (by kernel_rfl) ?_
            repeat (go_big_quiet_step ((go_at_call 67; exact Calls.regrown_of (CQ.out _ (Ext.trans he (by first | assumption | exact Ext_regrown _ _ (Ext.refl _)))))))
            refine wpQuiet_nil ?_
            rintro w1 ⟨⟨nq, osq⟩, hq⟩
            have ew1 := ext_of_q hq
            clear hq nq osq
            have he1 := he.trans ew1
            go_wp2_with fail
            refine wp_region_quiet_below (by kernel_rfl) (by kernel_rfl) ?_
            repeat (go_big_quiet_step ((go_at_call 68; exact Calls.regrown_of (CB.out _ (Ext.trans he1 (by first | assumption | exact Ext_regrown _ _ (Ext.refl _)))))))
            refine wpQuiet_nil ?_
            rintro w2 ⟨⟨nq, osq⟩, hq⟩
            have ew2 := ext_of_q hq
            clear hq nq osq
            have he2 := he1.trans ew2
            have e02 := ew1.trans ew2
            have HNM2 := Lib.hid (HNM.out.ext e02)
            have HBX2 := Lib.hid (HBX.out.ext e02)
            have HLEN : ∀ w', Ext w2 w' → ∀ ty, (Builtin.len_ #[70] ty #[.map (some bm)]).run Tryz.prog w' = .ok (.int .i64 (vs.length : Int)) w' := fun w' e ty => (HNM2.out.ext e).len ty
            have SX : Hid (∀ w', Ext Wb w' → Box w' gx #[.slice A ds.length c, .map (some bm)] 72 → (w'.cell? ⟨gx, 1, none⟩ = some (.map (some bm)) ∧ w'.cell? ⟨g2, o2, none⟩ = some (.int .i64 b.num) ∧ w'.cell? ⟨g2, o2 + 1, none⟩ = some (.slice Ab b.bytes.length cb) ∧ w'.cell? ⟨g2, o2 + 2, none⟩ = some (.slice Ib b.items.length ib)) ∧ Ext Wb w' ∧ Box w' gx #[.slice A ds.length c, .map (some bm)] 72) := fun w' e b => ⟨⟨b.cell 1, v0 w' e, v1 w' e, v2 w' e⟩, e, b⟩
            have hed := Ext_drew he2
            have hbd := HBX2.out.dr
            have HXD : Ext w2 w2.drew := Ext_drew (Ext.refl w2)
            have HVS : Hid (vs.length < 140737488351232) := by have := HLV.out; show _ < _; omega
            go_wp2_with fail
            have HSD := Lib.hid (SX.out _ hed hbd)
            have HAB : lv2 (fun w' => w'.cell? ⟨gx, 1, none⟩ = some (.map (some bm)) ∧ w'.cell? ⟨g2, o2, none⟩ = some (.int .i64 b.num) ∧ w'.cell? ⟨g2, o2 + 1, none⟩ = some (.slice Ab b.bytes.length cb) ∧ w'.cell? ⟨g2, o2 + 2, none⟩ = some (.slice Ib b.items.length ib)) (fun w' => ∀ ty, (Builtin.len_ #[70] ty #[.map (some bm)]).run Tryz.prog w' = .ok (.int .i64 (vs.length : Int)) w') 2 w2.drew := ⟨HSD.out.1, HLEN _ HXD⟩
            refine wp_region_C (C := fun j => lv2 (fun w' => w'.cell? ⟨gx, 1, none⟩ = some (.map (some bm)) ∧ w'.cell? ⟨g2, o2, none⟩ = some (.int .i64 b.num) ∧ w'.cell? ⟨g2, o2 + 1, none⟩ = some (.slice Ab b.bytes.length cb) ∧ w'.cell? ⟨g2, o2 + 2, none⟩ = some (.slice Ib b.items.length ib)) (fun w' => ∀ ty, (Builtin.len_ #[70] ty #[.map (some bm)]).run Tryz.prog w' = .ok (.int .i64 (vs.length : Int)) w') (([0, 0, 0, 1, 0, 0, 0, 1, 2, 2, 0, 0, 0, 1, 2, 2, 0] : List Nat).getD j 0)) (by kernel_rfl) ?_
            refine wpAnyC_take 0 (i := 0) (v := ?_) (lv2_mono _ _) rfl (by kernel_rfl) (by kernel_rfl) (by kernel_rfl) (by kernel_rfl) (by kernel_rfl) (fun _ _ _ h => h) trivial (Or.inl ⟨by rfl, ?_⟩) ?_
            rotate_left
            · (intro w hSw; clear hSw; go_simp; try with_reducible rfl)
            try simp only [Act.put, List.setIfInBounds_toArray, List.set_cons_zero, List.set_cons_succ]
            refine wpAnyC_take 0 (i := 1) (v := ?_) (lv2_mono _ _) rfl (by kernel_rfl) (by kernel_rfl) (by kernel_rfl) (by kernel_rfl) (by kernel_rfl) (fun _ _ _ h => h) trivial (Or.inl ⟨by rfl, ?_⟩) ?_
            rotate_left
            · (intro w hSw; clear hSw; go_simp; try with_reducible rfl)
            try simp only [Act.put, List.setIfInBounds_toArray, List.set_cons_zero, List.set_cons_succ]
            refine wpAnyC_take 0 (i := 2) (v := ?_) (lv2_mono _ _) rfl (by kernel_rfl) (by kernel_rfl) (by kernel_rfl) (by kernel_rfl) (by kernel_rfl) (fun _ _ _ h => h) trivial (Or.inl ⟨by rfl, ?_⟩) ?_
            rotate_left
            · (intro w hSw; clear hSw; go_simp; try with_reducible rfl)
            try simp only [Act.put, List.setIfInBounds_toArray, List.set_cons_zero, List.set_cons_succ]
            refine wpAnyC_take 0 (i := 4) (v := ?_) (lv2_mono _ _) rfl (by kernel_rfl) (by kernel_rfl) (by kernel_rfl) (by kernel_rfl) (by kernel_rfl) (fun _ _ _ h => h) trivial (Or.inl ⟨by rfl, ?_⟩) ?_
            rotate_left
            · (intro w hSw; clear hSw; go_simp; try with_reducible rfl)
            try simp only [Act.put, List.setIfInBounds_toArray, List.set_cons_zero, List.set_cons_succ]
            refine wpAnyC_take 0 (i := 5) (v := ?_) (lv2_mono _ _) rfl (by kernel_rfl) (by kernel_rfl) (by kernel_rfl) (by kernel_rfl) (by kernel_rfl) (fun _ _ _ h => h) trivial (Or.inl ⟨by rfl, ?_⟩) ?_
            rotate_left
            · (intro w hSw; clear hSw; go_simp; try with_reducible rfl)
            try simp only [Act.put, List.setIfInBounds_toArray, List.set_cons_zero, List.set_cons_succ]
            refine wpAnyC_take 0 (i := 6) (v := ?_) (lv2_mono _ _) rfl (by kernel_rfl) (by kernel_rfl) (by kernel_rfl) (by kernel_rfl) (by kernel_rfl) (fun _ _ _ h => h) trivial (Or.inl ⟨by rfl, ?_⟩) ?_
            rotate_left
            · (intro w hSw; clear hSw; go_simp; try with_reducible rfl)
            try simp only [Act.put, List.setIfInBounds_toArray, List.set_cons_zero, List.set_cons_succ]
            refine wpAnyC_take 0 (i := 10) (v := ?_) (lv2_mono _ _) rfl (by kernel_rfl) (by kernel_rfl) (by kernel_rfl) (by kernel_rfl) (by kernel_rfl) (fun _ _ _ h => h) trivial (Or.inl ⟨by rfl, ?_⟩) ?_
            rotate_left
            · (intro w hSw; clear hSw; go_simp; try with_reducible rfl)
            try simp only [Act.put, List.setIfInBounds_toArray, List.set_cons_zero, List.set_cons_succ]
            refine wpAnyC_take 0 (i := 11) (v := ?_) (lv2_mono _ _) rfl (by kernel_rfl) (by kernel_rfl) (by kernel_rfl) (by kernel_rfl) (by kernel_rfl) (fun _ _ _ h => h) trivial (Or.inl ⟨by rfl, ?_⟩) ?_
            rotate_left
            · (intro w hSw; clear hSw; go_simp; try with_reducible rfl)
            try simp only [Act.put, List.setIfInBounds_toArray, List.set_cons_zero, List.set_cons_succ]
            refine wpAnyC_take 0 (i := 12) (v := ?_) (lv2_mono _ _) rfl (by kernel_rfl) (by kernel_rfl) (by kernel_rfl) (by kernel_rfl) (by kernel_rfl) (fun _ _ _ h => h) trivial (Or.inl ⟨by rfl, ?_⟩) ?_
            rotate_left
            · (intro w hSw; clear hSw; go_simp; try with_reducible rfl)
            try simp only [Act.put, List.setIfInBounds_toArray, List.set_cons_zero, List.set_cons_succ]
            refine wpAnyC_take 1 (i := 3) (v := ?_) (lv2_mono _ _) rfl (by kernel_rfl) (by kernel_rfl) (by kernel_rfl) (by kernel_rfl) (by kernel_rfl) (fun _ _ _ h => h) (And.left HAB) (Or.inl ⟨by rfl, ?_⟩) ?_
            rotate_left
            · (intro w hSw; have hfact : w.cell? ⟨gx, 1, none⟩ = some (.map (some bm)) ∧ w.cell? ⟨g2, o2, none⟩ = some (.int .i64 b.num) ∧ w.cell? ⟨g2, o2 + 1, none⟩ = some (.slice Ab b.bytes.length cb) ∧ w.cell? ⟨g2, o2 + 2, none⟩ = some (.slice Ib b.items.length ib) := hSw; clear hSw; go_simp; try with_reducible rfl)
            try simp only [Act.put, List.setIfInBounds_toArray, List.set_cons_zero, List.set_cons_succ]
            refine wpAnyC_take 1 (i := 7) (v := ?_) (lv2_mono _ _) rfl (by kernel_rfl) (by kernel_rfl) (by kernel_rfl) (by kernel_rfl) (by kernel_rfl) (fun _ _ _ h => h) (And.left HAB) (Or.inl ⟨by rfl, ?_⟩) ?_
            rotate_left
            · (intro w hSw; have hfact : w.cell? ⟨gx, 1, none⟩ = some (.map (some bm)) ∧ w.cell? ⟨g2, o2, none⟩ = some (.int .i64 b.num) ∧ w.cell? ⟨g2, o2 + 1, none⟩ = some (.slice Ab b.bytes.length cb) ∧ w.cell? ⟨g2, o2 + 2, none⟩ = some (.slice Ib b.items.length ib) := hSw; clear hSw; go_simp; try with_reducible rfl)
            try simp only [Act.put, List.setIfInBounds_toArray, List.set_cons_zero, List.set_cons_succ]
            refine wpAnyC_take 1 (i := 13) (v := ?_) (lv2_mono _ _) rfl (by kernel_rfl) (by kernel_rfl) (by kernel_rfl) (by kernel_rfl) (by kernel_rfl) (fun _ _ _ h => h) (And.left HAB) (Or.inl ⟨by rfl, ?_⟩) ?_
            rotate_left
            · (intro w hSw; have hfact : w.cell? ⟨gx, 1, none⟩ = some (.map (some bm)) ∧ w.cell? ⟨g2, o2, none⟩ = some (.int .i64 b.num) ∧ w.cell? ⟨g2, o2 + 1, none⟩ = some (.slice Ab b.bytes.length cb) ∧ w.cell? ⟨g2, o2 + 2, none⟩ = some (.slice Ib b.items.length ib) := hSw; clear hSw; go_simp; try with_reducible rfl)
            try simp only [Act.put, List.setIfInBounds_toArray, List.set_cons_zero, List.set_cons_succ]
            refine wpAnyC_take 2 (i := 8) (v := ?_) (lv2_mono _ _) rfl (by kernel_rfl) (by kernel_rfl) (by kernel_rfl) (by kernel_rfl) (by kernel_rfl) (fun _ _ _ h => h) (HAB) (Or.inl ⟨by rfl, ?_⟩) ?_
            rotate_left
            · (intro w hSw; have hfact := hSw.2; clear hSw; go_simp; try with_reducible rfl)
            try simp only [Act.put, List.setIfInBounds_toArray, List.set_cons_zero, List.set_cons_succ]
            refine wpAnyC_take 2 (i := 9) (v := ?_) (lv2_mono _ _) rfl (by kernel_rfl) (by kernel_rfl) (by kernel_rfl) (by kernel_rfl) (by kernel_rfl) (fun _ _ _ h => h) (HAB) (Or.inl ⟨by rfl, ?_⟩) ?_
            rotate_left
            · (intro w hSw; clear hSw; go_simp; try with_reducible rfl)
            try simp only [Act.put, List.setIfInBounds_toArray, List.set_cons_zero, List.set_cons_succ]
            refine wpAnyC_one (i := 14) (by kernel_rfl) rfl (fun K hK => ?_)
            go_simp
            go_at_call 52
            refine (CC.out _ HSD.out.2.1).mono ?_
            rintro _ w7 ⟨t, rfl, hgt, he7⟩
            have hgt := Lib.hid hgt
            have hE7 := HSD.out.2.1.trans he7
            have hB7 := HSD.out.2.2.ext he7
            have hall : Ext w2 w7 := HXD.trans he7
            have hput := NumMap.put (HNM2.out.ext hall) HVS.out (.agg #[.string p, .int .i64 b.num, t.vb, t.vi])
            obtain ⟨w8, hup, hnm8, hg8⟩ := hput
            unfold numV at hup
            have HNM8 := Lib.hid hnm8
            have HG8 := Lib.hid hg8
            have hE8 : Ext Wb w8 := hE7.grown hg8 (fun k hk => by injection hk with hk; have := HBM.out; omega)
            have hB8 : Box w8 gx #[.slice A ds.length c, .map (some bm)] 72 := Box.moved hB7 hg8 (fun hh => by injection hh with hh; exact HNE.out hh)
            have HL7 := Lib.hid (And.intro (SX.out _ hE7 hB7).1 (HLEN _ hall))
            clear hnm8 hg8
            refine Shut.out hK _ _ HL7.out ?_
            try simp only [Act.put, List.setIfInBounds_toArray, List.set_cons_zero, List.set_cons_succ]
            refine wpAnyC_one (i := 15) (by kernel_rfl) rfl (fun K hK => ?_)
            go_simp
            refine Shut.out hK _ _ HL7.out ?_
            try simp only [Act.put, List.setIfInBounds_toArray, List.set_cons_zero, List.set_cons_succ]
            refine wpAnyC_one (i := 16) (by kernel_rfl) rfl (fun K hK => ?_)
            go_simp
            refine Shut.out hK _ _ trivial ?_
            try simp only [Act.put, List.setIfInBounds_toArray, List.set_cons_zero, List.set_cons_succ]
            refine wpAnyC_done (by kernel_rfl) ?_ _
            all_goals
              go_wp2
              have hgr : w.grownBy w8 (some bm) := (grown_ext (e02.trans hall) _).trans HG8.out
              have hbl := hgt.out.own.block
              have hms : bm < w.heap.size := HNM.out.lt
              have hsz2 : w.heap.size ≤ w2.drew.heap.size := e02.size
              refine And.intro (show _ = [] from rfl) ⟨.tuple #[], by simp [results, Tryz.results37, go_sem], ?_⟩
              refine ⟨rfl, [(p, t)], by rw [HE.out]; show [(p, t.val)] = _; rw [hgt.out.val], ?_, ?_, ?_, hgr⟩
              · have := HNM8.out
                rw [← hgt.out.num] at this
                exact this
              · intro t' ht'
                obtain rfl := List.mem_singleton.1 ht'
                exact (hgt.out.own.keep HG8.out (fun u hu g hg hh => by injection hh with hh; have := hbl u hu g hg; omega)).down hsz2
              · have : cvals [(p, t)] = t.vals := by simp [cvals]
                rw [this]; exact hgt.out.far
          · have HE := Lib.hid (HYES.out HQ1.out HQ2.out hn h0)
            have hz : ((a.items.length : Int) == 0) = false := by rw [beq_eq_false_iff_ne]; omega
            have HNUM : Hid (a.num = b.num) := by have := HQ1.out; show _ = _; simpa using this
            have IT : Hid (∀ j, j < a.items.length → kidV ds[i] a.num j < i ∧ ItemAt ds[i] a.num j) := fun j hj => own_item hok i hi (validV_fits hva) hj
            have IT2 : Hid (∀ j, j < a.items.length → ItemAtI ds[i] j) := fun j hj => (itemI_of hok i hi (fit_of_own hok i hi (validV_fits hva)) hj).1
            have KI : Hid (∀ j, j < a.items.length → kidI ds[i] a.num j = (kidV ds[i] a.num j : Int)) := fun j hj => by
              rcases (itemI_of hok i hi (fit_of_own hok i hi (validV_fits hva)) hj).2 with ⟨_, _, h⟩ | ⟨h, _⟩
              · exact h
              · rw [validV_fits hva] at h; cases h
            have VA : Hid (∀ j (hj : j < a.items.length), validV ds (kidV ds[i] a.num j) a.items[j] = true) := fun j hj => validV_item hva j hj
            have VB : Hid (∀ j (hj : j < b.items.length), validV ds (kidV ds[i] a.num j) b.items[j] = true) := fun j hj => by have := validV_item hvb j hj; rwa [← HNUM.out] at this
            have SZ : Hid (∀ j, j < a.items.length → (stepR ds[i] j).size ≤ 20) := fun j hj => stepR_size hok i hi (IT.out j hj).2 (by omega)
            have HSA : Hid (∀ x ∈ a.items, szV x ≤ 1048576) := fun x hx => by have := szV_item hx; omega
            have HSB : Hid (∀ x ∈ b.items, szV x ≤ 1048576) := fun x hx => by have := szV_item hx; omega
            have CCH : Hid (∀ j, ItemAtI ds[i] j → j ≤ 9223372036854775807 → ∀ w', Ext Wb w' → Gives Tryz.prog 69 #[vdesc (.slice A ds.length c), .int .i64 (i : Int), .pointer (some ⟨g1, o1, none⟩), .int .i64 (j : Int)] w' (.int .i64 (kidI ds[i] a.num j))) :=
              fun j hj hjl w' e => iChild_c A ds c i hi a.num g1 o1 j w' (HD.out.ext e) (fun w2 e2 => u0 w2 (e.trans e2)) hjl hj (kd_int hok i hi)
            have CST : Hid (∀ j, ItemAt ds[i] a.num j → j ≤ 9223372036854775807 → ∀ w', Ext Wb w' → Gives Tryz.prog 70 #[vdesc (.slice A ds.length c), .int .i64 (i : Int), .int .i64 (j : Int)] w' (.string (stepR ds[i] j))) :=
              fun j hj hjl w' e => iStep_c A ds c i hi a.num j w' hok (HD.out.ext e) hs hw hjl hj (HTAB.out.ext e)
            have HN := Lib.hid hn
            have HP := Lib.hid hp
            have HH := Lib.hid H
            clear hva hvb H HNO HYES hn hp hok h0 CC
            go_enter Tryz.func37, Tryz.ntmps37
            go_wp2_with fail
            refine wp_region_quiet_below (by kernel_rfl) (by kernel_rfl) ?_
            repeat (go_big_quiet_step ((go_at_call 67; exact Calls.regrown_of (CQ.out _ (Ext.trans he (by first | assumption | exact Ext_regrown _ _ (Ext.refl _)))))))
            refine wpQuiet_nil ?_
            rintro w1 ⟨⟨nq, osq⟩, hq⟩
            have ew1 := ext_of_q hq
            clear hq nq osq
            have he1 := he.trans ew1
            go_wp2_with fail
            refine wp_region_quiet_below (by kernel_rfl) (by kernel_rfl) ?_
            repeat (go_big_quiet_step ((go_at_call 68; exact Calls.regrown_of (CB.out _ (Ext.trans he1 (by first | assumption | exact Ext_regrown _ _ (Ext.refl _)))))))
            refine wpQuiet_nil ?_
            rintro w2 ⟨⟨nq, osq⟩, hq⟩
            have ew2 := ext_of_q hq
            clear hq nq osq
            have he2 := he1.trans ew2
            have e02 := ew1.trans ew2
            go_wp2
            go_loopw [81] (fun ix wr => ∃ (k : Nat) (ts : List CT), k ≤ a.items.length ∧ ix = .int .i64 k ∧ Hid (chOf ts = diffVs ds ds[i] a.num 0 (a.items.take k) (b.items.take k) p) ∧ Hid (NumMap wr bm (vs ++ ts.map chV)) ∧ Hid (∀ t ∈ ts, OwnT w wr t.2) ∧ Hid (Far (cvals ts)) ∧ Hid (w.grownBy wr (some bm))) (fun ix _ => a.items.length - (intOf ix).toNat)
            case atStart => exact ⟨0, [], by omega, rfl, by simp [Hid, chOf, diffVs_nil], by simpa [Hid] using HNM.out.ext e02, (fun t ht => by cases ht), Far.nil, grown_ext e02 _⟩
            case round =>
              clear he1 he2 ew1 ew2 e02
              obtain ⟨k, ts, hk, rfl, hts, hnm, hown, hfar, hgr⟩ := hrel
              have her : Ext Wb wr := he.grown hgr.out (fun k hk => by injection hk with hk; have := HBM.out; omega)
              have hbr : Box wr gx #[.slice A ds.length c, .map (some bm)] 72 := Box.moved HBX.out hgr.out (fun hh => by injection hh with hh; exact HNE.out hh)
              by_cases hlt : k < a.items.length
              · have hlt' : k < b.items.length := by have := HN.out; omega
                obtain ⟨bb1, of1, A1, c1, D1, d1, hIa, hbb1, hs1, hr1⟩ := HA.out.i.at k hlt
                obtain ⟨bb2, of2, A2, c2, D2, d2, hIb, hbb2, hs2, hr2⟩ := HB.out.i.at k hlt'
                subst hIa; subst hIb
                obtain ⟨hkl, hat⟩ := IT.out k hlt
                have Hk := HH.out _ (List.getElem_mem hlt)
                have hva1 := VA.out k hlt; have hvb1 := VB.out k hlt'
                have hst := SZ.out k hlt
                have hun := under_size (p := p) hst
                have hsx := HSA.out _ (List.getElem_mem hlt); have hsy := HSB.out _ (List.getElem_mem hlt')
                have hcl : (vs ++ ts.map chV).length + szV a.items[k] ≤ 4000000 := by
                  have h1 := chOf_len ts
                  rw [hts.out] at h1
                  have h2 := diffVs_len ds ds[i] a.num p (a.items.take k) (b.items.take k) 0
                  have h3 : szVs (a.items.take (k + 1)) = szVs (a.items.take k) + (1 + szV a.items[k]) := by
                    rw [szVs_sum, szVs_sum, szVs_take a.items k hlt, List.length_take, List.length_take]; omega
                  have h4 := szVs_take_le a.items (k + 1)
                  have h5 := szVs_le_szV a
                  have h6 := HLV.out
                  rw [List.length_append, List.length_map]
                  omega
                have CE := Lib.hid (fun w' (e : Ext Wb w') (hb' : Box w' gx #[.slice A ds.length c, .map (some bm)] 72) (hn' : NumMap w' bm (vs ++ ts.map chV)) => Hk (kidV ds[i] a.num k) (by omega) b.items[k] A1 c1 D1 d1 A2 c2 D2 d2 bb1 (of1 + k * 3) bb2 (of2 + k * 3) (under p ds[i] k) Wb w' gx bm (vs ++ ts.map chV) HD.out hs1 hs2 hr1 hr2 e HTAB.out HBM.out hb' HNE.out hn' hva1 hvb1 hsx hsy hcl (by have := HP.out; omega))
                have CJ := Lib.hid (fun w' (e : Ext Wb w') => CCH.out k (IT2.out k hlt) (by omega) w' e); have CT2 := Lib.hid (fun w' (e : Ext Wb w') => CST.out k hat (by omega) w' e)
                rw [KI.out k hlt] at CJ
                have HT := Lib.hid (diffVs_take ds ds[i] a.num p a.items b.items k hlt hlt')
                have hp1 : p.size ≤ 1000 := by have := HP.out; omega
                unfold under at CE HT
                have h47 : (⟨#[47]⟩ : ByteArray).size ≤ 1 := Nat.le_refl _
                have hps : (p ++ ⟨#[47]⟩ : ByteArray).size ≤ 1001 := by rw [ByteArray.size_append]; omega
                generalize hX : a.items[k] = x at *
                generalize hY : b.items[k] = y at *
                clear hX hY
                generalize hQ : stepR ds[i] k = q at *
                clear hQ
                have hn1 : ¬ 9223372036854775807 < p.size + 1 := by omega
                have hn2 : ¬ 9223372036854775807 < p.size + 1 + q.size := by omega
                generalize hK : kidV ds[i] a.num k = kk at *
                clear hK hkl hat Hk hva1 hvb1 hs1 hs2 hun hsx hsy hr1 hr2 hcl
                unfold vdesc at CJ CT2
                have hkk : (0 : Int) ≤ (k : Int) := by omega
                have hkl1 : (k : Int) < (a.items.length : Int) := by omega
                have hkl2 : (k : Int) < (b.items.length : Int) := by omega
                have SX : Hid (∀ w', Ext Wb w' → Box w' gx #[.slice A ds.length c, .map (some bm)] 72 → (w'.cell? ⟨gx, 0, none⟩ = some (.slice A ds.length c) ∧ w'.cell? ⟨g1, o1 + 2, none⟩ = some (.slice (some ⟨bb1, of1, none⟩) a.items.length ia) ∧ w'.cell? ⟨g2, o2 + 2, none⟩ = some (.slice (some ⟨bb2, of2, none⟩) b.items.length ib)) ∧ Ext Wb w' ∧ Box w' gx #[.slice A ds.length c, .map (some bm)] 72) := fun w' e b => ⟨⟨b.cell 0, u2 w' e, v2 w' e⟩, e, b⟩
                have HNMr := hnm
                have hed := Ext_drew her
                have hbd := hbr.dr
                have HXD : Ext wr wr.drew := Ext_drew (Ext.refl wr)
                go_wp2_with fail
                go_region_held3 (fun w' => (w'.cell? ⟨gx, 0, none⟩ = some (.slice A ds.length c) ∧ w'.cell? ⟨g1, o1 + 2, none⟩ = some (.slice (some ⟨bb1, of1, none⟩) a.items.length ia) ∧ w'.cell? ⟨g2, o2 + 2, none⟩ = some (.slice (some ⟨bb2, of2, none⟩) b.items.length ib)) ∧ Ext Wb w' ∧ Box w' gx #[.slice A ds.length c, .map (some bm)] 72) (exact SX.out _ (by assumption) (by assumption)) (first
                  | (go_at_call 69; have hq := ‹_ ∧ Ext Wb _ ∧ Box _ gx _ _›; refine (CJ.out _ hq.2.1).mono ?_; rintro _ w4 ⟨rfl, he4⟩; have hE4 := hq.2.1.trans he4; have hB4 := hq.2.2.ext he4)
                  | (go_at_call 70; have hq := ‹_ ∧ Ext Wb _ ∧ Box _ gx _ _›; refine (CT2.out _ hq.2.1).mono ?_; rintro _ w5 ⟨rfl, he5⟩; have hE5 := hq.2.1.trans he5; have hB5 := hq.2.2.ext he5)
                  | (go_at_call 37; have hq := ‹_ ∧ Ext Wb _ ∧ Box _ gx _ _›; refine (CE.out _ hq.2.1 hq.2.2 (HNMr.out.ext (by first | exact HXD.trans (he4.trans he5) | exact HXD.trans (he5.trans he4)))).mono ?_; rintro _ w7 ⟨rfl, tB, hch, hnm7, hown7, hfar7, hg7⟩; have hE7 : Ext Wb w7 := hq.2.1.grown hg7 (fun k hk => by injection hk with hk; have := HBM.out; omega); have hB7 : Box w7 gx #[.slice A ds.length c, .map (some bm)] 72 := Box.moved hq.2.2 hg7 (fun hh => by injection hh with hh; exact HNE.out hh); have hcur : ∃ wc : World, Ext wr wc ∧ wc.grownBy w7 (some bm) ∧ (∀ t ∈ tB, OwnT wc w7 t.2) := (by first | exact ⟨w5, HXD.trans (he4.trans he5), hg7, hown7⟩ | exact ⟨w4, HXD.trans (he5.trans he4), hg7, hown7⟩); have HCUR := Lib.hid hcur; have HCH := Lib.hid hch; have HN7 := Lib.hid hnm7; have HF7 := Lib.hid hfar7; clear hcur hch hnm7 hown7 hfar7 hg7))
                all_goals
                  obtain ⟨wc, hwc, hgc, hoc⟩ := HCUR.out
                  have hms : bm < w.heap.size := HNM.out.lt
                  have hg9 := Lib.hid ((hgr.out.trans (grown_ext hwc _)).trans hgc)
                  have N9 : Hid (chOf (ts ++ tB) = diffVs ds ds[i] a.num 0 (a.items.take (k + 1)) (b.items.take (k + 1)) p) := by show _ = _; rw [chOf_append, hts.out, HCH.out, HT.out]
                  have M9 : Hid (NumMap w7 bm (vs ++ (ts ++ tB).map chV)) := by have := HN7.out; rw [List.append_assoc, ← List.map_append] at this; exact this
                  have O9 : Hid (∀ t ∈ ts ++ tB, OwnT w w7 t.2) := by
                    intro t ht
                    rcases List.mem_append.1 ht with ht | ht
                    · exact ((hown.out t ht).ext hwc).keep hgc (fun u hu g hg hh => by injection hh with hh; have := (hown.out t ht).block u hu g hg; omega)
                    · exact (hoc t ht).down (Nat.le_trans hgr.out.size hwc.size)
                  have F9 : Hid (Far (cvals (ts ++ tB))) := by
                    show Far _
                    rw [cvals_append]
                    refine Far.append hfar.out HF7.out ?_
                    intro u hu v hv g h1 h2
                    obtain ⟨t, ht, hu⟩ := List.mem_flatMap.1 hu
                    obtain ⟨t', ht', hv⟩ := List.mem_flatMap.1 hv
                    have h3 := (hown.out t ht).block u hu g h1
                    have h4 := (hoc t' ht').block v hv g h2
                    have h5 := hwc.size
                    omega
                  clear hoc hgc hwc
                  go_wp2
                  go_roundw
                  case rel => exact ⟨k + 1, ts ++ tB, by omega, by go_num, N9, M9, O9, F9, hg9⟩
                  case measure => simp [intOf]; omega
              · have hk' : k = a.items.length := by omega
                have HF : Hid (chOf ts = DD) := by
                  show _ = _; rw [hts.out, HE.out, hk', List.take_length, HN.out, List.take_length]
                go_wp2
                refine And.intro (show _ = [] from rfl) ⟨.tuple #[], by simp [results, Tryz.results37, go_sem], ?_⟩
                exact ⟨rfl, ts, HF.out, hnm.out, hown.out, hfar.out, hgr.out⟩
        · have HE := Lib.hid (HNO.out (.inr (.inr (.inl hn))))
          have hb1 : ((a.items.length : Int) != (b.items.length : Int)) = true := by simp; omega
          clear HNO HYES hn
          go_enter Tryz.func37, Tryz.ntmps37
          go_wp2_with fail
          refine wp_region_quiet_below (by kernel_rfl) (by kernel_rfl) ?_
          repeat (go_big_quiet_step ((go_at_call 67; exact Calls.regrown_of (CQ.out _ (Ext.trans he (by first | assumption | exact Ext_regrown _ _ (Ext.refl _)))))))
          refine wpQuiet_nil ?_
          rintro w1 ⟨⟨nq, osq⟩, hq⟩
          have ew1 := ext_of_q hq
          clear hq nq osq
          have he1 := he.trans ew1
          go_wp2_with fail
          refine wp_region_quiet_below (by kernel_rfl) (by kernel_rfl) ?_
          repeat (go_big_quiet_step ((go_at_call 68; exact Calls.regrown_of (CB.out _ (Ext.trans he1 (by first | assumption | exact Ext_regrown _ _ (Ext.refl _)))))))
          refine wpQuiet_nil ?_
          rintro w2 ⟨⟨nq, osq⟩, hq⟩
          have ew2 := ext_of_q hq
          clear hq nq osq
          have he2 := he1.trans ew2
          have e02 := ew1.trans ew2
          have HNM2 := Lib.hid (HNM.out.ext e02)
          have HBX2 := Lib.hid (HBX.out.ext e02)
          have HLEN : ∀ w', Ext w2 w' → ∀ ty, (Builtin.len_ #[70] ty #[.map (some bm)]).run Tryz.prog w' = .ok (.int .i64 (vs.length : Int)) w' := fun w' e ty => (HNM2.out.ext e).len ty
          have SX : Hid (∀ w', Ext Wb w' → Box w' gx #[.slice A ds.length c, .map (some bm)] 72 → (w'.cell? ⟨gx, 1, none⟩ = some (.map (some bm)) ∧ w'.cell? ⟨g2, o2, none⟩ = some (.int .i64 b.num) ∧ w'.cell? ⟨g2, o2 + 1, none⟩ = some (.slice Ab b.bytes.length cb) ∧ w'.cell? ⟨g2, o2 + 2, none⟩ = some (.slice Ib b.items.length ib)) ∧ Ext Wb w' ∧ Box w' gx #[.slice A ds.length c, .map (some bm)] 72) := fun w' e b => ⟨⟨b.cell 1, v0 w' e, v1 w' e, v2 w' e⟩, e, b⟩
          have hed := Ext_drew he2
          have hbd := HBX2.out.dr
          have HXD : Ext w2 w2.drew := Ext_drew (Ext.refl w2)
          have HVS : Hid (vs.length < 140737488351232) := by have := HLV.out; show _ < _; omega
          go_wp2_with fail
          have HSD := Lib.hid (SX.out _ hed hbd)
          have HAB : lv2 (fun w' => w'.cell? ⟨gx, 1, none⟩ = some (.map (some bm)) ∧ w'.cell? ⟨g2, o2, none⟩ = some (.int .i64 b.num) ∧ w'.cell? ⟨g2, o2 + 1, none⟩ = some (.slice Ab b.bytes.length cb) ∧ w'.cell? ⟨g2, o2 + 2, none⟩ = some (.slice Ib b.items.length ib)) (fun w' => ∀ ty, (Builtin.len_ #[70] ty #[.map (some bm)]).run Tryz.prog w' = .ok (.int .i64 (vs.length : Int)) w') 2 w2.drew := ⟨HSD.out.1, HLEN _ HXD⟩
          refine wp_region_C (C := fun j => lv2 (fun w' => w'.cell? ⟨gx, 1, none⟩ = some (.map (some bm)) ∧ w'.cell? ⟨g2, o2, none⟩ = some (.int .i64 b.num) ∧ w'.cell? ⟨g2, o2 + 1, none⟩ = some (.slice Ab b.bytes.length cb) ∧ w'.cell? ⟨g2, o2 + 2, none⟩ = some (.slice Ib b.items.length ib)) (fun w' => ∀ ty, (Builtin.len_ #[70] ty #[.map (some bm)]).run Tryz.prog w' = .ok (.int .i64 (vs.length : Int)) w') (([0, 0, 0, 1, 0, 0, 0, 1, 2, 2, 0, 0, 0, 1, 2, 2, 0] : List Nat).getD j 0)) (by kernel_rfl) ?_
          refine wpAnyC_take 0 (i := 0) (v := ?_) (lv2_mono _ _) rfl (by kernel_rfl) (by kernel_rfl) (by kernel_rfl) (by kernel_rfl) (by kernel_rfl) (fun _ _ _ h => h) trivial (Or.inl ⟨by rfl, ?_⟩) ?_
          rotate_left
          · (intro w hSw; clear hSw; go_simp; try with_reducible rfl)
          try simp only [Act.put, List.setIfInBounds_toArray, List.set_cons_zero, List.set_cons_succ]
          refine wpAnyC_take 0 (i := 1) (v := ?_) (lv2_mono _ _) rfl (by kernel_rfl) (by kernel_rfl) (by kernel_rfl) (by kernel_rfl) (by kernel_rfl) (fun _ _ _ h => h) trivial (Or.inl ⟨by rfl, ?_⟩) ?_
          rotate_left
          · (intro w hSw; clear hSw; go_simp; try with_reducible rfl)
          try simp only [Act.put, List.setIfInBounds_toArray, List.set_cons_zero, List.set_cons_succ]
          refine wpAnyC_take 0 (i := 2) (v := ?_) (lv2_mono _ _) rfl (by kernel_rfl) (by kernel_rfl) (by kernel_rfl) (by kernel_rfl) (by kernel_rfl) (fun _ _ _ h => h) trivial (Or.inl ⟨by rfl, ?_⟩) ?_
          rotate_left
          · (intro w hSw; clear hSw; go_simp; try with_reducible rfl)
          try simp only [Act.put, List.setIfInBounds_toArray, List.set_cons_zero, List.set_cons_succ]
          refine wpAnyC_take 0 (i := 4) (v := ?_) (lv2_mono _ _) rfl (by kernel_rfl) (by kernel_rfl) (by kernel_rfl) (by kernel_rfl) (by kernel_rfl) (fun _ _ _ h => h) trivial (Or.inl ⟨by rfl, ?_⟩) ?_
          rotate_left
          · (intro w hSw; clear hSw; go_simp; try with_reducible rfl)
          try simp only [Act.put, List.setIfInBounds_toArray, List.set_cons_zero, List.set_cons_succ]
          refine wpAnyC_take 0 (i := 5) (v := ?_) (lv2_mono _ _) rfl (by kernel_rfl) (by kernel_rfl) (by kernel_rfl) (by kernel_rfl) (by kernel_rfl) (fun _ _ _ h => h) trivial (Or.inl ⟨by rfl, ?_⟩) ?_
          rotate_left
          · (intro w hSw; clear hSw; go_simp; try with_reducible rfl)
          try simp only [Act.put, List.setIfInBounds_toArray, List.set_cons_zero, List.set_cons_succ]
          refine wpAnyC_take 0 (i := 6) (v := ?_) (lv2_mono _ _) rfl (by kernel_rfl) (by kernel_rfl) (by kernel_rfl) (by kernel_rfl) (by kernel_rfl) (fun _ _ _ h => h) trivial (Or.inl ⟨by rfl, ?_⟩) ?_
          rotate_left
          · (intro w hSw; clear hSw; go_simp; try with_reducible rfl)
          try simp only [Act.put, List.setIfInBounds_toArray, List.set_cons_zero, List.set_cons_succ]
          refine wpAnyC_take 0 (i := 10) (v := ?_) (lv2_mono _ _) rfl (by kernel_rfl) (by kernel_rfl) (by kernel_rfl) (by kernel_rfl) (by kernel_rfl) (fun _ _ _ h => h) trivial (Or.inl ⟨by rfl, ?_⟩) ?_
          rotate_left
          · (intro w hSw; clear hSw; go_simp; try with_reducible rfl)
          try simp only [Act.put, List.setIfInBounds_toArray, List.set_cons_zero, List.set_cons_succ]
          refine wpAnyC_take 0 (i := 11) (v := ?_) (lv2_mono _ _) rfl (by kernel_rfl) (by kernel_rfl) (by kernel_rfl) (by kernel_rfl) (by kernel_rfl) (fun _ _ _ h => h) trivial (Or.inl ⟨by rfl, ?_⟩) ?_
          rotate_left
          · (intro w hSw; clear hSw; go_simp; try with_reducible rfl)
          try simp only [Act.put, List.setIfInBounds_toArray, List.set_cons_zero, List.set_cons_succ]
          refine wpAnyC_take 0 (i := 12) (v := ?_) (lv2_mono _ _) rfl (by kernel_rfl) (by kernel_rfl) (by kernel_rfl) (by kernel_rfl) (by kernel_rfl) (fun _ _ _ h => h) trivial (Or.inl ⟨by rfl, ?_⟩) ?_
          rotate_left
          · (intro w hSw; clear hSw; go_simp; try with_reducible rfl)
          try simp only [Act.put, List.setIfInBounds_toArray, List.set_cons_zero, List.set_cons_succ]
          refine wpAnyC_take 1 (i := 3) (v := ?_) (lv2_mono _ _) rfl (by kernel_rfl) (by kernel_rfl) (by kernel_rfl) (by kernel_rfl) (by kernel_rfl) (fun _ _ _ h => h) (And.left HAB) (Or.inl ⟨by rfl, ?_⟩) ?_
          rotate_left
          · (intro w hSw; have hfact : w.cell? ⟨gx, 1, none⟩ = some (.map (some bm)) ∧ w.cell? ⟨g2, o2, none⟩ = some (.int .i64 b.num) ∧ w.cell? ⟨g2, o2 + 1, none⟩ = some (.slice Ab b.bytes.length cb) ∧ w.cell? ⟨g2, o2 + 2, none⟩ = some (.slice Ib b.items.length ib) := hSw; clear hSw; go_simp; try with_reducible rfl)
          try simp only [Act.put, List.setIfInBounds_toArray, List.set_cons_zero, List.set_cons_succ]
          refine wpAnyC_take 1 (i := 7) (v := ?_) (lv2_mono _ _) rfl (by kernel_rfl) (by kernel_rfl) (by kernel_rfl) (by kernel_rfl) (by kernel_rfl) (fun _ _ _ h => h) (And.left HAB) (Or.inl ⟨by rfl, ?_⟩) ?_
          rotate_left
          · (intro w hSw; have hfact : w.cell? ⟨gx, 1, none⟩ = some (.map (some bm)) ∧ w.cell? ⟨g2, o2, none⟩ = some (.int .i64 b.num) ∧ w.cell? ⟨g2, o2 + 1, none⟩ = some (.slice Ab b.bytes.length cb) ∧ w.cell? ⟨g2, o2 + 2, none⟩ = some (.slice Ib b.items.length ib) := hSw; clear hSw; go_simp; try with_reducible rfl)
          try simp only [Act.put, List.setIfInBounds_toArray, List.set_cons_zero, List.set_cons_succ]
          refine wpAnyC_take 1 (i := 13) (v := ?_) (lv2_mono _ _) rfl (by kernel_rfl) (by kernel_rfl) (by kernel_rfl) (by kernel_rfl) (by kernel_rfl) (fun _ _ _ h => h) (And.left HAB) (Or.inl ⟨by rfl, ?_⟩) ?_
          rotate_left
          · (intro w hSw; have hfact : w.cell? ⟨gx, 1, none⟩ = some (.map (some bm)) ∧ w.cell? ⟨g2, o2, none⟩ = some (.int .i64 b.num) ∧ w.cell? ⟨g2, o2 + 1, none⟩ = some (.slice Ab b.bytes.length cb) ∧ w.cell? ⟨g2, o2 + 2, none⟩ = some (.slice Ib b.items.length ib) := hSw; clear hSw; go_simp; try with_reducible rfl)
          try simp only [Act.put, List.setIfInBounds_toArray, List.set_cons_zero, List.set_cons_succ]
          refine wpAnyC_take 2 (i := 8) (v := ?_) (lv2_mono _ _) rfl (by kernel_rfl) (by kernel_rfl) (by kernel_rfl) (by kernel_rfl) (by kernel_rfl) (fun _ _ _ h => h) (HAB) (Or.inl ⟨by rfl, ?_⟩) ?_
          rotate_left
          · (intro w hSw; have hfact := hSw.2; clear hSw; go_simp; try with_reducible rfl)
          try simp only [Act.put, List.setIfInBounds_toArray, List.set_cons_zero, List.set_cons_succ]
          refine wpAnyC_take 2 (i := 9) (v := ?_) (lv2_mono _ _) rfl (by kernel_rfl) (by kernel_rfl) (by kernel_rfl) (by kernel_rfl) (by kernel_rfl) (fun _ _ _ h => h) (HAB) (Or.inl ⟨by rfl, ?_⟩) ?_
          rotate_left
          · (intro w hSw; clear hSw; go_simp; try with_reducible rfl)
          try simp only [Act.put, List.setIfInBounds_toArray, List.set_cons_zero, List.set_cons_succ]
          refine wpAnyC_one (i := 14) (by kernel_rfl) rfl (fun K hK => ?_)
          go_simp
          go_at_call 52
          refine (CC.out _ HSD.out.2.1).mono ?_
          rintro _ w7 ⟨t, rfl, hgt, he7⟩
          have hgt := Lib.hid hgt
          have hE7 := HSD.out.2.1.trans he7
          have hB7 := HSD.out.2.2.ext he7
          have hall : Ext w2 w7 := HXD.trans he7
          have hput := NumMap.put (HNM2.out.ext hall) HVS.out (.agg #[.string p, .int .i64 b.num, t.vb, t.vi])
          obtain ⟨w8, hup, hnm8, hg8⟩ := hput
          unfold numV at hup
          have HNM8 := Lib.hid hnm8
          have HG8 := Lib.hid hg8
          have hE8 : Ext Wb w8 := hE7.grown hg8 (fun k hk => by injection hk with hk; have := HBM.out; omega)
          have hB8 : Box w8 gx #[.slice A ds.length c, .map (some bm)] 72 := Box.moved hB7 hg8 (fun hh => by injection hh with hh; exact HNE.out hh)
          have HL7 := Lib.hid (And.intro (SX.out _ hE7 hB7).1 (HLEN _ hall))
          clear hnm8 hg8
          refine Shut.out hK _ _ HL7.out ?_
          try simp only [Act.put, List.setIfInBounds_toArray, List.set_cons_zero, List.set_cons_succ]
          refine wpAnyC_one (i := 15) (by kernel_rfl) rfl (fun K hK => ?_)
          go_simp
          refine Shut.out hK _ _ HL7.out ?_
          try simp only [Act.put, List.setIfInBounds_toArray, List.set_cons_zero, List.set_cons_succ]
          refine wpAnyC_one (i := 16) (by kernel_rfl) rfl (fun K hK => ?_)
          go_simp
          refine Shut.out hK _ _ trivial ?_
          try simp only [Act.put, List.setIfInBounds_toArray, List.set_cons_zero, List.set_cons_succ]
          refine wpAnyC_done (by kernel_rfl) ?_ _
          all_goals
            go_wp2
            have hgr : w.grownBy w8 (some bm) := (grown_ext (e02.trans hall) _).trans HG8.out
            have hbl := hgt.out.own.block
            have hms : bm < w.heap.size := HNM.out.lt
            have hsz2 : w.heap.size ≤ w2.drew.heap.size := e02.size
            refine And.intro (show _ = [] from rfl) ⟨.tuple #[], by simp [results, Tryz.results37, go_sem], ?_⟩
            refine ⟨rfl, [(p, t)], by rw [HE.out]; show [(p, t.val)] = _; rw [hgt.out.val], ?_, ?_, ?_, hgr⟩
            · have := HNM8.out
              rw [← hgt.out.num] at this
              exact this
            · intro t' ht'
              obtain rfl := List.mem_singleton.1 ht'
              exact (hgt.out.own.keep HG8.out (fun u hu g hg hh => by injection hh with hh; have := hbl u hu g hg; omega)).down hsz2
            · have : cvals [(p, t)] = t.vals := by simp [cvals]
              rw [this]; exact hgt.out.far
    · have HE := Lib.hid (HNO.out (.inl hq1))
      clear HNO HYES
      go_enter Tryz.func37, Tryz.ntmps37
      go_wp2_with fail
      refine wp_region_quiet_below (by kernel_rfl) (by kernel_rfl) ?_
      repeat (go_big_quiet_step ((go_at_call 67; exact Calls.regrown_of (CQ.out _ (Ext.trans he (by first | assumption | exact Ext_regrown _ _ (Ext.refl _)))))))
      refine wpQuiet_nil ?_
      rintro w1 ⟨⟨nq, osq⟩, hq⟩
      have ew1 := ext_of_q hq
      clear hq nq osq
      have he1 := he.trans ew1
      go_wp2_with fail
      refine wp_region_quiet_below (by kernel_rfl) (by kernel_rfl) ?_
      repeat (go_big_quiet_step ((go_at_call 68; exact Calls.regrown_of (CB.out _ (Ext.trans he1 (by first | assumption | exact Ext_regrown _ _ (Ext.refl _)))))))
      refine wpQuiet_nil ?_
      rintro w2 ⟨⟨nq, osq⟩, hq⟩
      have ew2 := ext_of_q hq
      clear hq nq osq
      have he2 := he1.trans ew2
      have e02 := ew1.trans ew2
      have HNM2 := Lib.hid (HNM.out.ext e02)
      have HBX2 := Lib.hid (HBX.out.ext e02)
      have HLEN : ∀ w', Ext w2 w' → ∀ ty, (Builtin.len_ #[70] ty #[.map (some bm)]).run Tryz.prog w' = .ok (.int .i64 (vs.length : Int)) w' := fun w' e ty => (HNM2.out.ext e).len ty
      have SX : Hid (∀ w', Ext Wb w' → Box w' gx #[.slice A ds.length c, .map (some bm)] 72 → (w'.cell? ⟨gx, 1, none⟩ = some (.map (some bm)) ∧ w'.cell? ⟨g2, o2, none⟩ = some (.int .i64 b.num) ∧ w'.cell? ⟨g2, o2 + 1, none⟩ = some (.slice Ab b.bytes.length cb) ∧ w'.cell? ⟨g2, o2 + 2, none⟩ = some (.slice Ib b.items.length ib)) ∧ Ext Wb w' ∧ Box w' gx #[.slice A ds.length c, .map (some bm)] 72) := fun w' e b => ⟨⟨b.cell 1, v0 w' e, v1 w' e, v2 w' e⟩, e, b⟩
      have hed := Ext_drew he2
      have hbd := HBX2.out.dr
      have HXD : Ext w2 w2.drew := Ext_drew (Ext.refl w2)
      have HVS : Hid (vs.length < 140737488351232) := by have := HLV.out; show _ < _; omega
      go_wp2_with fail
      have HSD := Lib.hid (SX.out _ hed hbd)
      have HAB : lv2 (fun w' => w'.cell? ⟨gx, 1, none⟩ = some (.map (some bm)) ∧ w'.cell? ⟨g2, o2, none⟩ = some (.int .i64 b.num) ∧ w'.cell? ⟨g2, o2 + 1, none⟩ = some (.slice Ab b.bytes.length cb) ∧ w'.cell? ⟨g2, o2 + 2, none⟩ = some (.slice Ib b.items.length ib)) (fun w' => ∀ ty, (Builtin.len_ #[70] ty #[.map (some bm)]).run Tryz.prog w' = .ok (.int .i64 (vs.length : Int)) w') 2 w2.drew := ⟨HSD.out.1, HLEN _ HXD⟩
      refine wp_region_C (C := fun j => lv2 (fun w' => w'.cell? ⟨gx, 1, none⟩ = some (.map (some bm)) ∧ w'.cell? ⟨g2, o2, none⟩ = some (.int .i64 b.num) ∧ w'.cell? ⟨g2, o2 + 1, none⟩ = some (.slice Ab b.bytes.length cb) ∧ w'.cell? ⟨g2, o2 + 2, none⟩ = some (.slice Ib b.items.length ib)) (fun w' => ∀ ty, (Builtin.len_ #[70] ty #[.map (some bm)]).run Tryz.prog w' = .ok (.int .i64 (vs.length : Int)) w') (([0, 0, 0, 1, 0, 0, 0, 1, 2, 2, 0, 0, 0, 1, 2, 2, 0] : List Nat).getD j 0)) (by kernel_rfl) ?_
      refine wpAnyC_take 0 (i := 0) (v := ?_) (lv2_mono _ _) rfl (by kernel_rfl) (by kernel_rfl) (by kernel_rfl) (by kernel_rfl) (by kernel_rfl) (fun _ _ _ h => h) trivial (Or.inl ⟨by rfl, ?_⟩) ?_
      rotate_left
      · (intro w hSw; clear hSw; go_simp; try with_reducible rfl)
      try simp only [Act.put, List.setIfInBounds_toArray, List.set_cons_zero, List.set_cons_succ]
      refine wpAnyC_take 0 (i := 1) (v := ?_) (lv2_mono _ _) rfl (by kernel_rfl) (by kernel_rfl) (by kernel_rfl) (by kernel_rfl) (by kernel_rfl) (fun _ _ _ h => h) trivial (Or.inl ⟨by rfl, ?_⟩) ?_
      rotate_left
      · (intro w hSw; clear hSw; go_simp; try with_reducible rfl)
      try simp only [Act.put, List.setIfInBounds_toArray, List.set_cons_zero, List.set_cons_succ]
      refine wpAnyC_take 0 (i := 2) (v := ?_) (lv2_mono _ _) rfl (by kernel_rfl) (by kernel_rfl) (by kernel_rfl) (by kernel_rfl) (by kernel_rfl) (fun _ _ _ h => h) trivial (Or.inl ⟨by rfl, ?_⟩) ?_
      rotate_left
      · (intro w hSw; clear hSw; go_simp; try with_reducible rfl)
      try simp only [Act.put, List.setIfInBounds_toArray, List.set_cons_zero, List.set_cons_succ]
      refine wpAnyC_take 0 (i := 4) (v := ?_) (lv2_mono _ _) rfl (by kernel_rfl) (by kernel_rfl) (by kernel_rfl) (by kernel_rfl) (by kernel_rfl) (fun _ _ _ h => h) trivial (Or.inl ⟨by rfl, ?_⟩) ?_
      rotate_left
      · (intro w hSw; clear hSw; go_simp; try with_reducible rfl)
      try simp only [Act.put, List.setIfInBounds_toArray, List.set_cons_zero, List.set_cons_succ]
      refine wpAnyC_take 0 (i := 5) (v := ?_) (lv2_mono _ _) rfl (by kernel_rfl) (by kernel_rfl) (by kernel_rfl) (by kernel_rfl) (by kernel_rfl) (fun _ _ _ h => h) trivial (Or.inl ⟨by rfl, ?_⟩) ?_
      rotate_left
      · (intro w hSw; clear hSw; go_simp; try with_reducible rfl)
      try simp only [Act.put, List.setIfInBounds_toArray, List.set_cons_zero, List.set_cons_succ]
      refine wpAnyC_take 0 (i := 6) (v := ?_) (lv2_mono _ _) rfl (by kernel_rfl) (by kernel_rfl) (by kernel_rfl) (by kernel_rfl) (by kernel_rfl) (fun _ _ _ h => h) trivial (Or.inl ⟨by rfl, ?_⟩) ?_
      rotate_left
      · (intro w hSw; clear hSw; go_simp; try with_reducible rfl)
      try simp only [Act.put, List.setIfInBounds_toArray, List.set_cons_zero, List.set_cons_succ]
      refine wpAnyC_take 0 (i := 10) (v := ?_) (lv2_mono _ _) rfl (by kernel_rfl) (by kernel_rfl) (by kernel_rfl) (by kernel_rfl) (by kernel_rfl) (fun _ _ _ h => h) trivial (Or.inl ⟨by rfl, ?_⟩) ?_
      rotate_left
      · (intro w hSw; clear hSw; go_simp; try with_reducible rfl)
      try simp only [Act.put, List.setIfInBounds_toArray, List.set_cons_zero, List.set_cons_succ]
      refine wpAnyC_take 0 (i := 11) (v := ?_) (lv2_mono _ _) rfl (by kernel_rfl) (by kernel_rfl) (by kernel_rfl) (by kernel_rfl) (by kernel_rfl) (fun _ _ _ h => h) trivial (Or.inl ⟨by rfl, ?_⟩) ?_
      rotate_left
      · (intro w hSw; clear hSw; go_simp; try with_reducible rfl)
      try simp only [Act.put, List.setIfInBounds_toArray, List.set_cons_zero, List.set_cons_succ]
      refine wpAnyC_take 0 (i := 12) (v := ?_) (lv2_mono _ _) rfl (by kernel_rfl) (by kernel_rfl) (by kernel_rfl) (by kernel_rfl) (by kernel_rfl) (fun _ _ _ h => h) trivial (Or.inl ⟨by rfl, ?_⟩) ?_
      rotate_left
      · (intro w hSw; clear hSw; go_simp; try with_reducible rfl)
      try simp only [Act.put, List.setIfInBounds_toArray, List.set_cons_zero, List.set_cons_succ]
      refine wpAnyC_take 1 (i := 3) (v := ?_) (lv2_mono _ _) rfl (by kernel_rfl) (by kernel_rfl) (by kernel_rfl) (by kernel_rfl) (by kernel_rfl) (fun _ _ _ h => h) (And.left HAB) (Or.inl ⟨by rfl, ?_⟩) ?_
      rotate_left
      · (intro w hSw; have hfact : w.cell? ⟨gx, 1, none⟩ = some (.map (some bm)) ∧ w.cell? ⟨g2, o2, none⟩ = some (.int .i64 b.num) ∧ w.cell? ⟨g2, o2 + 1, none⟩ = some (.slice Ab b.bytes.length cb) ∧ w.cell? ⟨g2, o2 + 2, none⟩ = some (.slice Ib b.items.length ib) := hSw; clear hSw; go_simp; try with_reducible rfl)
      try simp only [Act.put, List.setIfInBounds_toArray, List.set_cons_zero, List.set_cons_succ]
      refine wpAnyC_take 1 (i := 7) (v := ?_) (lv2_mono _ _) rfl (by kernel_rfl) (by kernel_rfl) (by kernel_rfl) (by kernel_rfl) (by kernel_rfl) (fun _ _ _ h => h) (And.left HAB) (Or.inl ⟨by rfl, ?_⟩) ?_
      rotate_left
      · (intro w hSw; have hfact : w.cell? ⟨gx, 1, none⟩ = some (.map (some bm)) ∧ w.cell? ⟨g2, o2, none⟩ = some (.int .i64 b.num) ∧ w.cell? ⟨g2, o2 + 1, none⟩ = some (.slice Ab b.bytes.length cb) ∧ w.cell? ⟨g2, o2 + 2, none⟩ = some (.slice Ib b.items.length ib) := hSw; clear hSw; go_simp; try with_reducible rfl)
      try simp only [Act.put, List.setIfInBounds_toArray, List.set_cons_zero, List.set_cons_succ]
      refine wpAnyC_take 1 (i := 13) (v := ?_) (lv2_mono _ _) rfl (by kernel_rfl) (by kernel_rfl) (by kernel_rfl) (by kernel_rfl) (by kernel_rfl) (fun _ _ _ h => h) (And.left HAB) (Or.inl ⟨by rfl, ?_⟩) ?_
      rotate_left
      · (intro w hSw; have hfact : w.cell? ⟨gx, 1, none⟩ = some (.map (some bm)) ∧ w.cell? ⟨g2, o2, none⟩ = some (.int .i64 b.num) ∧ w.cell? ⟨g2, o2 + 1, none⟩ = some (.slice Ab b.bytes.length cb) ∧ w.cell? ⟨g2, o2 + 2, none⟩ = some (.slice Ib b.items.length ib) := hSw; clear hSw; go_simp; try with_reducible rfl)
      try simp only [Act.put, List.setIfInBounds_toArray, List.set_cons_zero, List.set_cons_succ]
      refine wpAnyC_take 2 (i := 8) (v := ?_) (lv2_mono _ _) rfl (by kernel_rfl) (by kernel_rfl) (by kernel_rfl) (by kernel_rfl) (by kernel_rfl) (fun _ _ _ h => h) (HAB) (Or.inl ⟨by rfl, ?_⟩) ?_
      rotate_left
      · (intro w hSw; have hfact := hSw.2; clear hSw; go_simp; try with_reducible rfl)
      try simp only [Act.put, List.setIfInBounds_toArray, List.set_cons_zero, List.set_cons_succ]
      refine wpAnyC_take 2 (i := 9) (v := ?_) (lv2_mono _ _) rfl (by kernel_rfl) (by kernel_rfl) (by kernel_rfl) (by kernel_rfl) (by kernel_rfl) (fun _ _ _ h => h) (HAB) (Or.inl ⟨by rfl, ?_⟩) ?_
      rotate_left
      · (intro w hSw; clear hSw; go_simp; try with_reducible rfl)
      try simp only [Act.put, List.setIfInBounds_toArray, List.set_cons_zero, List.set_cons_succ]
      refine wpAnyC_one (i := 14) (by kernel_rfl) rfl (fun K hK => ?_)
      go_simp
      go_at_call 52
      refine (CC.out _ HSD.out.2.1).mono ?_
      rintro _ w7 ⟨t, rfl, hgt, he7⟩
      have hgt := Lib.hid hgt
      have hE7 := HSD.out.2.1.trans he7
      have hB7 := HSD.out.2.2.ext he7
      have hall : Ext w2 w7 := HXD.trans he7
      have hput := NumMap.put (HNM2.out.ext hall) HVS.out (.agg #[.string p, .int .i64 b.num, t.vb, t.vi])
      obtain ⟨w8, hup, hnm8, hg8⟩ := hput
      unfold numV at hup
      have HNM8 := Lib.hid hnm8
      have HG8 := Lib.hid hg8
      have hE8 : Ext Wb w8 := hE7.grown hg8 (fun k hk => by injection hk with hk; have := HBM.out; omega)
      have hB8 : Box w8 gx #[.slice A ds.length c, .map (some bm)] 72 := Box.moved hB7 hg8 (fun hh => by injection hh with hh; exact HNE.out hh)
      have HL7 := Lib.hid (And.intro (SX.out _ hE7 hB7).1 (HLEN _ hall))
      clear hnm8 hg8
      refine Shut.out hK _ _ HL7.out ?_
      try simp only [Act.put, List.setIfInBounds_toArray, List.set_cons_zero, List.set_cons_succ]
      refine wpAnyC_one (i := 15) (by kernel_rfl) rfl (fun K hK => ?_)
      go_simp
      refine Shut.out hK _ _ HL7.out ?_
      try simp only [Act.put, List.setIfInBounds_toArray, List.set_cons_zero, List.set_cons_succ]
      refine wpAnyC_one (i := 16) (by kernel_rfl) rfl (fun K hK => ?_)
      go_simp
      refine Shut.out hK _ _ trivial ?_
      try simp only [Act.put, List.setIfInBounds_toArray, List.set_cons_zero, List.set_cons_succ]
      refine wpAnyC_done (by kernel_rfl) ?_ _
      all_goals
        go_wp2
        have hgr : w.grownBy w8 (some bm) := (grown_ext (e02.trans hall) _).trans HG8.out
        have hbl := hgt.out.own.block
        have hms : bm < w.heap.size := HNM.out.lt
        have hsz2 : w.heap.size ≤ w2.drew.heap.size := e02.size
        refine And.intro (show _ = [] from rfl) ⟨.tuple #[], by simp [results, Tryz.results37, go_sem], ?_⟩
        refine ⟨rfl, [(p, t)], by rw [HE.out]; show [(p, t.val)] = _; rw [hgt.out.val], ?_, ?_, ?_, hgr⟩
        · have := HNM8.out
          rw [← hgt.out.num] at this
          exact this
        · intro t' ht'
          obtain rfl := List.mem_singleton.1 ht'
          exact (hgt.out.own.keep HG8.out (fun u hu g hg hh => by injection hh with hh; have := hbl u hu g hg; omega)).down hsz2
        · have : cvals [(p, t)] = t.vals := by simp [cvals]
          rw [this]; exact hgt.out.far
  · obtain rfl := eqV_iff.1 heq
    have HE := Lib.hid (diffV_same ds i a p)
    rw [heq] at CQ
    go_enter Tryz.func37, Tryz.ntmps37
    go_wp2_with fail
    refine wp_region_quiet_below (by kernel_rfl) (by kernel_rfl) ?_
    repeat (go_big_quiet_step ((go_at_call 67; exact Calls.regrown_of (CQ.out _ (Ext.trans he (by first | assumption | exact Ext_regrown _ _ (Ext.refl _)))))))
    refine wpQuiet_nil ?_
    rintro w1 ⟨⟨nq, osq⟩, hq⟩
    have ew1 := ext_of_q hq
    clear hq nq osq
    have he1 := he.trans ew1
    go_wp2
    refine And.intro (show _ = [] from rfl) ⟨.tuple #[], by simp [results, Tryz.results37, go_sem], ?_⟩
    exact ⟨rfl, [], by rw [HE.out]; rfl, by simpa using HNM.out.ext ew1, (fun t ht => by cases ht), Far.nil, grown_ext ew1 _⟩
theorem iCmp_all (A : Option Addr) (ds : List DRule) (c : Nat) (hok : descOk ds = true) (hs : ShortD ds) (hw : WfD ds) : ∀ v, iCmpOk A ds c v := fun v => DVal.ind (iCmp_of A ds c hok hs hw) v
end Go.Proofs.YtjckcbfpejcpcaaGreatDoor

/- DiffValues and CountChanges of the program. -/
set_option linter.unusedSimpArgs false
set_option linter.unusedVariables false
namespace Go.Proofs.YtjckcbfpejcpcaaGreatDoor
open Go.RowKit Go.Sort

theorem ccells_take (ts : List CT) (k : Nat) (hk : k < ts.length) : (ts.take (k + 1)).flatMap ccells = (ts.take k).flatMap ccells ++ ccells ts[k] := by
  rw [List.take_succ_eq_append_getElem hk, List.flatMap_append, List.flatMap_cons, List.flatMap_nil, List.append_nil]
set_option maxRecDepth 100000 in
set_option maxHeartbeats 8000000 in
theorem iDiffD_c (A : Option Addr) (ds : List DRule) (c : Nat) (a b : DVal) (Aa : Option Addr) (ca : Nat) (Ia : Option Addr) (ia : Nat) (Ab : Option Addr) (cb : Nat) (Ib : Option Addr) (ib : Nat) (w : World) (hd : RdD w A ds c) (hs : ShortD ds) (hw : WfD ds) (ha : RdV w a Aa ca Ia ia) (hb : RdV w b Ab cb Ib ib) (hsa : szV a ≤ 1048576) (hsb : szV b ≤ 1048576) (hT : Tab w) :
    Calls Tryz.prog 10 #[vdesc (.slice A ds.length c), vval a (.slice Aa a.bytes.length ca) (.slice Ia a.items.length ia), vval b (.slice Ab b.bytes.length cb) (.slice Ib b.items.length ib)] w fun e w' => ∃ v cs, e = .returned v ∧ chOf cs = diffD ds a b ∧ OwnC w w' v cs ∧ Ext w w' := by
  have hl := hd.len
  have HD := Lib.hid hd; have HA := Lib.hid ha; have HB := Lib.hid hb; have HTAB := Lib.hid hT
  have CR := Lib.hid (fun w => iRoot_c A ds c w hl)
  have CV1 := Lib.hid (fun w h h2 => iValid_c A ds c ((ds.length : Int) - 1) a Aa ca Ia ia w h hs hw h2)
  have CV2 := Lib.hid (fun w h h2 => iValid_c A ds c ((ds.length : Int) - 1) b Ab cb Ib ib w h hs hw h2)
  obtain ⟨W0, HW0, BA, BV, BU, eA, hsA⟩ := boxes3' w #[.slice A ds.length c] #[.int .i64 a.num, .slice Aa a.bytes.length ca, .slice Ia a.items.length ia] #[.int .i64 b.num, .slice Ab b.bytes.length cb, .slice Ib b.items.length ib] 35 39 39
  have B0 := BA.at 0; have B1 := BV.at; have B2 := BU.at
  simp only [List.getElem?_toArray, List.getElem?_cons_zero] at B0
  have HAT1 : Hid (∀ w', Ext W0 w' → ValAt w' (w.heap.size + 1) 0 a (.slice Aa a.bytes.length ca) (.slice Ia a.items.length ia)) := fun w' e => ⟨fun w2 e2 => BV.at 0 w2 (e.trans e2), fun w2 e2 => BV.at 1 w2 (e.trans e2), fun w2 e2 => BV.at 2 w2 (e.trans e2)⟩
  have HAT2 : Hid (∀ w', Ext W0 w' → ValAt w' (w.heap.size + 1 + 1) 0 b (.slice Ab b.bytes.length cb) (.slice Ib b.items.length ib)) := fun w' e => ⟨fun w2 e2 => BU.at 0 w2 (e.trans e2), fun w2 e2 => BU.at 1 w2 (e.trans e2), fun w2 e2 => BU.at 2 w2 (e.trans e2)⟩
  have x0 := Ext_alloc (.cells #[] 58) (Ext.refl W0)
  have OE := Own.empty (e := 58) (size := 4) (Ext.refl W0)
  have hsW : W0.heap.size = w.heap.size + 1 + 1 + 1 := by omega
  rw [hsW] at OE
  have HOE := Lib.hid OE; clear OE
  have HSW := Lib.hid hsW
  clear BA BV BU hd ha hb hsA hT hsW
  cases z1 : validB ds ((ds.length : Int) - 1) a
  · have HE := Lib.hid (diffD_no (.inl z1) : diffD ds a b = [])
    rw [HE.out]
    rw [z1] at CV1
    clear z1 CV2
    generalize (ds.length : Int) - 1 = rt at *
    unfold vdesc vval at *
    go_enter Tryz.func10, Tryz.ntmps10
    go_wp2_with fail
    rw [← HW0.out]
    refine (CR.out _).mono ?_; rintro _ w1 ⟨rfl, he1⟩
    have e1 := x0.trans he1
    go_wp2_with fail
    refine (CV1.out _ (HD.out.ext (eA.trans e1)) (HA.out.ext (eA.trans e1))).mono ?_; rintro _ w2 ⟨rfl, he2⟩
    go_wp2
    go_ret
    exact ⟨_, [], rfl, rfl, (OwnC.nil (Own.ext HOE.out (he1.trans he2))).down eA.size, eA.trans (e1.trans he2)⟩
  · cases z2 : validB ds ((ds.length : Int) - 1) b
    · have HE := Lib.hid (diffD_no (.inr z2) : diffD ds a b = [])
      rw [HE.out]
      rw [z1] at CV1
      rw [z2] at CV2
      clear z1 z2
      generalize (ds.length : Int) - 1 = rt at *
      unfold vdesc vval at *
      go_enter Tryz.func10, Tryz.ntmps10
      go_wp2_with fail
      rw [← HW0.out]
      refine (CR.out _).mono ?_; rintro _ w1 ⟨rfl, he1⟩
      have e1 := x0.trans he1
      go_wp2_with fail
      refine (CV1.out _ (HD.out.ext (eA.trans e1)) (HA.out.ext (eA.trans e1))).mono ?_; rintro _ w2 ⟨rfl, he2⟩
      have e2 := e1.trans he2
      go_wp2_with fail
      refine (CV2.out _ (HD.out.ext (eA.trans e2)) (HB.out.ext (eA.trans e2))).mono ?_; rintro _ w3 ⟨rfl, he3⟩
      go_wp2
      go_ret
      exact ⟨_, [], rfl, rfl, (OwnC.nil (Own.ext HOE.out ((he1.trans he2).trans he3))).down eA.size, eA.trans (e2.trans he3)⟩
    · obtain ⟨hE, hok, k, hk, hlt, hrt, hva, hvb⟩ := diffD_yes z1 z2
      rw [hE, ← hk]
      have hle := (descOk_len hok).2
      have CD := Lib.hid (iCmp_all A ds c hok hs hw a k hlt b Aa ca Ia ia Ab cb Ib ib (w.heap.size + 1) 0 (w.heap.size + 1 + 1) 0 ⟨#[]⟩)
      have HVA := Lib.hid hva; have HVB := Lib.hid hvb
      have HLEN0 : Hid ((diffV ds k a b ⟨#[]⟩).length ≤ 1048577) := by have := diffV_len ds a k b ⟨#[]⟩; show _ ≤ _; omega
      rw [z1] at CV1
      rw [z2] at CV2
      rw [hrt] at CV1 CV2 CR
      clear z1 z2 hE hk hrt hva hvb
      generalize diffV ds k a b ⟨#[]⟩ = DD at *
      unfold vdesc vval at *
      go_enter Tryz.func10, Tryz.ntmps10
      go_wp2_with fail
      rw [← HW0.out]
      refine (CR.out _).mono ?_; rintro _ w1 ⟨rfl, he1⟩
      have e1 := x0.trans he1
      go_wp2_with fail
      refine (CV1.out _ (HD.out.ext (eA.trans e1)) (HA.out.ext (eA.trans e1))).mono ?_; rintro _ w2 ⟨rfl, he2⟩
      have e2 := e1.trans he2
      go_wp2_with fail
      refine (CV2.out _ (HD.out.ext (eA.trans e2)) (HB.out.ext (eA.trans e2))).mono ?_; rintro _ w3 ⟨rfl, he3⟩
      have e3 := e2.trans he3
      have hmm : ∀ w : World, (Instr.makeMap 70 none).run Tryz.prog w = .ok (.map (some w.heap.size)) (w.alloc (.map #[] 0)) := fun w => rfl
      have HOW := Lib.hid (Own.ext HOE.out ((he1.trans he2).trans he3))
      clear he1 he2 he3 e1 e2 CR CV1 CV2
      have xm := Ext_alloc (.map #[] 0) (Ext.refl w3)
      have hsm : (w3.alloc (.map #[] 0)).heap.size = w3.heap.size + 1 := by simp
      obtain ⟨WQ, hWQ⟩ : ∃ WQ, WQ = (w3.alloc (.map #[] 0)).alloc (.cells #[.slice A ds.length c, .map (some w3.heap.size)] 72) := ⟨_, rfl⟩
      have hNM : NumMap WQ w3.heap.size [] := by rw [hWQ]; exact (NumMap.made w3).ext (Ext_alloc _ (Ext.refl _))
      have hBX : Box WQ (w3.heap.size + 1) #[.slice A ds.length c, .map (some w3.heap.size)] 72 := by rw [hWQ]; have := Box.new (w3.alloc (.map #[] 0)) #[.slice A ds.length c, .map (some w3.heap.size)] 72; rwa [hsm] at this
      have xq : Ext w3 WQ := by rw [hWQ]; exact xm.trans (Ext_alloc _ (Ext.refl _))
      have HWQ := Lib.hid hWQ
      have CD2 := Lib.hid (CD.out w3 WQ (w3.heap.size + 1) w3.heap.size [] (HD.out.ext (eA.trans e3)) (HA.out.ext (eA.trans e3)) (HB.out.ext (eA.trans e3)) (HAT1.out w3 e3) (HAT2.out w3 e3) xq (HTAB.out.ext (eA.trans e3)) (Nat.le_refl _) hBX (by omega) hNM HVA.out HVB.out hsa hsb (by simp; omega) (by show 0 + 22 * (k + 1) ≤ 1000; omega))
      have HBX := Lib.hid hBX
      have HE3 := Lib.hid e3
      have HXQ := Lib.hid xq
      have hW0l := HSW.out
      have hb3 : w.heap.size + 1 + 1 + 1 < w3.heap.size := by have := (World.ownsRow.lt HOW.out _ rfl).2; exact this
      clear CD hWQ hNM hBX xm hsm
      go_wp2_with fail
      rw [← HWQ.out]
      refine CD2.out.mono ?_; rintro _ w7 ⟨rfl, ts, hch, hnm, hown, hfar, hg7⟩
      rw [List.nil_append] at hnm
      have HN7 := Lib.hid hnm
      have hbx7 : Box w7 (w3.heap.size + 1) #[.slice A ds.length c, .map (some w3.heap.size)] 72 := Box.moved HBX.out hg7 (fun hh => by injection hh with hh; omega)
      have hlen : ts.length ≤ 1048577 := by have := HLEN0.out; rw [← hch, chOf_len] at this; exact this
      have hrow7 : Own 58 4 W0 w7 (.slice (some ⟨w.heap.size + 1 + 1 + 1, 0, none⟩) 0 0) 0 [] := (Own.ext HOW.out HXQ.out).keep hg7 (fun g hg hh => by injection hh with hh; have : some (w.heap.size + 1 + 1 + 1) = some g := hg; injection this with this; omega)
      have e7 : Ext W0 w7 := (HE3.out.trans HXQ.out).grown hg7 (fun g hg => by injection hg with hg; omega)
      have c71 : ∀ w', Ext w7 w' → w'.cell? ⟨w3.heap.size + 1, 1, none⟩ = some (.map (some w3.heap.size)) := fun w' e => (hbx7.ext e).cell 1
      have HLEN : ∀ ty, (Builtin.len_ #[70] ty #[.map (some w3.heap.size)]).run Tryz.prog w7 = .ok (.int .i64 (ts.length : Int)) w7 := fun ty => by have := HN7.out.len ty; rwa [List.length_map] at this
      have FAR0 : Hid (Far ((Value.slice (some ⟨w.heap.size + 1 + 1 + 1, 0, none⟩) 0 0) :: cvals ts)) := by
        refine Far.cons hfar ?_
        intro u hu g h1 h2
        obtain ⟨t, ht, hu⟩ := List.mem_flatMap.1 hu
        have h3 := (hown t ht).block u hu g h2
        have h4 : some (w.heap.size + 1 + 1 + 1) = some g := h1
        injection h4 with h4
        have h5 := HXQ.out.size
        omega
      have HOWN := Lib.hid hown; have HBX7 := Lib.hid hbx7; have HROW := Lib.hid hrow7; have HCH := Lib.hid hch
      have HMS := Lib.hid HN7.out.lt
      clear hch hnm hown hfar hg7 hrow7 hbx7 HAT1 HAT2 hmm
      go_wp2
      go_loopw [7, 39] (fun tv ix wr => ∃ (j : Nat) (v : Value), j ≤ ts.length ∧ ix = .int .i64 j ∧ tv = v ∧ Hid (Own 58 4 W0 wr v j ((ts.take j).flatMap ccells)) ∧ Hid (∀ t ∈ ts, OwnT WQ wr t.2) ∧ Hid (Far (v :: cvals ts)) ∧ Hid (NumMap wr w3.heap.size (ts.map chV)) ∧ Hid (Box wr (w3.heap.size + 1) #[.slice A ds.length c, .map (some w3.heap.size)] 72) ∧ Hid (v.ownBlock ≠ some w3.heap.size) ∧ Hid (v.ownBlock ≠ some (w3.heap.size + 1)) ∧ Ext W0 wr ∧ w7.heap.size ≤ wr.heap.size) (fun _ ix _ => ts.length - (intOf ix).toNat)
      case atStart =>
        refine ⟨0, _, by omega, rfl, rfl, HROW.out, HOWN.out, FAR0.out, HN7.out, HBX7.out, ?_, ?_, e7, Nat.le_refl _⟩
        · intro hh; have h4 : some (w.heap.size + 1 + 1 + 1) = some w3.heap.size := hh; injection h4 with h4; omega
        · intro hh; have h4 : some (w.heap.size + 1 + 1 + 1) = some (w3.heap.size + 1) := hh; injection h4 with h4; omega
      case round =>
        clear HROW HOWN FAR0 HN7 HBX7 HLEN c71 e7
        obtain ⟨j, v, hj, rfl, rfl, hrow, hown, hfar, hnm, hbx, hn1, hn2, he, hsz⟩ := hrel
        by_cases hjl : j < ts.length
        · have c1 : _ = some (Value.map (some w3.heap.size)) := hbx.out.cell 1
          have hlk := hnm.out.look j (by rw [List.length_map]; exact hjl) (by omega)
          rw [List.getElem_map] at hlk
          have HTK := Lib.hid (ccells_take ts j hjl)
          have hmem := Lib.hid (List.getElem_mem hjl)
          have hone : Hid (∀ u ∈ ccells ts[j], u.oneCell' = true) := fun u hu => ccells_one (cs := [ts[j]]) (w0 := WQ) (w := wr) (fun c hc => by rw [List.mem_singleton.1 hc]; exact hown.out _ hmem.out) u (by simpa using hu)
          unfold numV chV at hlk
          have hjj : (0 : Int) ≤ (j : Int) := by omega
          have HCC : Hid (ccells ts[j] = [.string ts[j].1, .int .i64 ts[j].2.num, ts[j].2.vb, ts[j].2.vi]) := rfl
          rw [HCC.out] at HTK hone
          generalize ts[j].1 = q1 at *
          generalize ts[j].2.num = q2 at *
          generalize ts[j].2.vb = q3 at *
          generalize ts[j].2.vi = q4 at *
          clear HCC hmem
          go_wp2_with (first
            | (at_builtin; refine wpList_appE rfl (.tmp 42) (.tmp 50) _ rfl E_chg W0 wr u7 j ((ts.take j).flatMap ccells) rfl hrow.out he [.string q1, .int .i64 q2, q3, q4] _ rfl 1 _ _ rfl rfl rfl hone.out (by simp [maxLen]; omega) (by omega) ?_; intro v6 w6 ho6 he6 hb6 hg6))
          have xa := Ext_alloc (.cells #[.string q1, .int .i64 q2, q3, q4] 58) (Ext.refl wr)
          have R9 : Hid (Own 58 4 W0 w6 v6 (j + 1) ((ts.take (j + 1)).flatMap ccells)) := by rw [HTK.out]; exact ho6
          have hfr := hfar.out
          unfold Far at hfr
          rw [List.pairwise_cons] at hfr
          have O9 : Hid (∀ t ∈ ts, OwnT WQ w6 t.2) := fun t ht => ((hown.out t ht).ext xa).keep hg6 (fun u hu g hg hh => hfr.1 u (mem_cvals ht hu) g hh hg)
          have hsa6 : (wr.alloc (.cells #[.string q1, .int .i64 q2, q3, q4] 58)).heap.size = wr.heap.size + 1 := by simp
          have F9 : Hid (Far (v6 :: cvals ts)) := by
            refine Far.cons hfr.2 ?_
            intro u hu g h1 h2
            rcases hb6 with h | h
            · rw [h] at h1; exact hfr.1 u hu g h1 h2
            · rw [h, hsa6] at h1; injection h1 with h1
              obtain ⟨t, ht, hu⟩ := List.mem_flatMap.1 hu
              have := (hown.out t ht).block u hu g h2; omega
          have hbl := HMS.out
          have hb7l := hbx.out.lt
          have N1 : Hid (v6.ownBlock ≠ some w3.heap.size) := by
            rcases hb6 with h | h
            · show _ ≠ _; rw [h]; exact hn1.out
            · show _ ≠ _; rw [h, hsa6]; intro hh; injection hh with hh; omega
          have N2 : Hid (v6.ownBlock ≠ some (w3.heap.size + 1)) := by
            rcases hb6 with h | h
            · show _ ≠ _; rw [h]; exact hn2.out
            · show _ ≠ _; rw [h, hsa6]; intro hh; injection hh with hh; omega
          have M9 : Hid (NumMap w6 w3.heap.size (ts.map chV)) := (hnm.out.ext xa).kept hg6 (fun hh => hn1.out hh.symm)
          have B9 : Hid (Box w6 (w3.heap.size + 1) #[.slice A ds.length c, .map (some w3.heap.size)] 72) := Box.moved (hbx.out.ext xa) hg6 hn2.out
          have S9 : Hid (w7.heap.size ≤ w6.heap.size) := by have := hg6.size; show _ ≤ _; omega
          clear hfr hsa6 ho6 hb6 hg6 hlk
          go_wp2
          go_roundw
          case rel => exact ⟨j + 1, v6, by omega, by go_num, rfl, R9, O9, F9, M9, B9, N1, N2, he6, S9.out⟩
          case measure => simp [intOf]; omega
        · have hj' : j = ts.length := by omega
          have FIN : Hid (OwnC w wr u7 ts) := by
            have hr := hrow.out
            rw [hj', List.take_length] at hr
            exact ⟨World.ownsRow.lower hr eA.size, fun t ht => (hown.out t ht).down (by have := (HE3.out.trans HXQ.out).size; have := eA.size; omega), hfar.out⟩
          go_wp2
          go_ret
          exact ⟨_, ts, rfl, HCH.out, FIN.out, eA.trans he⟩
set_option maxRecDepth 100000 in
set_option maxHeartbeats 4000000 in
theorem iCount_c (A : Option Addr) (ds : List DRule) (c : Nat) (a b : DVal) (Aa : Option Addr) (ca : Nat) (Ia : Option Addr) (ia : Nat) (Ab : Option Addr) (cb : Nat) (Ib : Option Addr) (ib : Nat) (w : World) (hd : RdD w A ds c) (hs : ShortD ds) (hw : WfD ds) (ha : RdV w a Aa ca Ia ia) (hb : RdV w b Ab cb Ib ib) (hsa : szV a ≤ 1048576) (hsb : szV b ≤ 1048576) (hT : Tab w) :
    Gives Tryz.prog 26 #[vdesc (.slice A ds.length c), vval a (.slice Aa a.bytes.length ca) (.slice Ia a.items.length ia), vval b (.slice Ab b.bytes.length cb) (.slice Ib b.items.length ib)] w (.int .i64 ((diffD ds a b).length : Nat)) := by
  have CD := Lib.hid (fun w h1 h2 h3 hT => iDiffD_c A ds c a b Aa ca Ia ia Ab cb Ib ib w h1 hs hw h2 h3 hsa hsb hT)
  have HL : Hid (∀ cs, chOf cs = diffD ds a b → cs.length = (diffD ds a b).length ∧ (diffD ds a b).length ≤ 1048577) := fun cs h => ⟨by rw [← h, chOf_len], diffD_len hsa⟩
  generalize diffD ds a b = DD at *
  obtain ⟨W0, HW0, BA, BV, BU, eA, hsA⟩ := boxes3' w #[.slice A ds.length c] #[.int .i64 a.num, .slice Aa a.bytes.length ca, .slice Ia a.items.length ia] #[.int .i64 b.num, .slice Ab b.bytes.length cb, .slice Ib b.items.length ib] 35 39 39
  have B0 := BA.at 0; have B1 := BV.at; have B2 := BU.at
  simp only [List.getElem?_toArray, List.getElem?_cons_zero] at B0
  have HD := Lib.hid hd; have HA := Lib.hid ha; have HB := Lib.hid hb; have HTAB := Lib.hid hT
  clear BA BV BU hd ha hb hsA hT
  unfold vdesc vval at *
  go_enter Tryz.func26, Tryz.ntmps26
  go_wp2_with fail
  rw [← HW0.out]
  refine (CD.out _ (HD.out.ext eA) (HA.out.ext eA) (HB.out.ext eA) (HTAB.out.ext eA)).mono ?_; rintro _ w1 ⟨v, cs, rfl, hcs, hoc, he1⟩
  obtain ⟨A1, c1, hv⟩ := hoc.shape
  subst hv
  obtain ⟨h1, h2⟩ := HL.out cs hcs
  rw [h1]
  clear hoc hcs h1
  go_wp2
  go_ret
  exact ⟨rfl, eA.trans he1⟩
end Go.Proofs.YtjckcbfpejcpcaaGreatDoor

/- The laws' marks laid over rules. -/
namespace Go.Proofs.YtjckcbfpejcpcaaGreatDoor
open Go.RowKit Go.Sort

set_option maxRecDepth 100000 in
set_option maxHeartbeats 8000000 in
theorem markRuleS_c (g c : Nat) (ps : List RV) (k : Nat) (w0 w : World) (hi : Nat) (h : OwnD w0 w (.slice (some ⟨g, 0, none⟩) ps.length c) ps) (hB : ∀ u ∈ (Value.slice (some ⟨g, 0, none⟩) ps.length c) :: ps.flatMap RV.vals, ∀ b, u.ownBlock = some b → w0.heap.size ≤ b ∧ b < hi) (hk : 0 < k) (hk2 : kEndR k ps ≤ 1099511627776) (hs : ∀ p ∈ ps, ShortR p.r) :
    Calls Tryz.prog 42 #[.slice (some ⟨g, 0, none⟩) ps.length c, .int .i64 k] w fun e w' => e = .returned (.int .i64 (kEndR k ps : Nat)) ∧ MarkingR w0 w' g c ps k ps.length ∧ Wrote w0.heap.size hi w w' := by
  obtain ⟨f1, f2, f3⟩ := far_parts h.far
  have HF1 := Lib.hid (fun j hj u hu => f1 j hj u hu g rfl); have HF2 := Lib.hid f2; have HF3 := Lib.hid f3
  have hgB := hB _ (List.mem_cons_self ..) g rfl
  have HB : Hid (∀ p ∈ ps, ∀ v ∈ p.vals, ∀ b, v.ownBlock = some b → w0.heap.size ≤ b ∧ b < hi) := fun p hp v hv b hb => hB v (List.mem_cons_of_mem _ (List.mem_flatMap.2 ⟨p, hp, hv⟩)) b hb
  have HM : Hid (MarkingR w0 w g c ps k 0) := ⟨by simpa [msR] using h.row, fun j _ hj => by omega, fun j hj _ => h.each _ (List.getElem_mem hj)⟩
  have hn : ps.length ≤ 140737488351232 := by
    rw [kEndR_eq] at hk2
    have := len_mlen ps
    omega
  clear h f1 f2 f3 hB
  go_enter Tryz.func42, Tryz.ntmps42
  go_wp2
  go_loopw [1, 5] (fun kk i wr => ∃ j : Nat, j ≤ ps.length ∧ i = .int .i64 j ∧ kk = .int .i64 (kEndR k (ps.take j) : Nat) ∧ Hid (MarkingR w0 wr g c ps k j) ∧ Wrote w0.heap.size hi w wr) (fun _ i _ => ps.length - (intOf i).toNat)
  case atStart => exact ⟨0, by omega, rfl, rfl, HM, Wrote.refl _ _ _⟩
  case round =>
    clear HM
    obtain ⟨j, hj, rfl, rfl, hm, hw⟩ := hrel
    by_cases hlt : j < ps.length
    · have HKn : Hid (kEndR k (ps.take (j+1)) = kEndR k (ps.take j) + mlen ps[j].r) := by
        show _ = _; rw [List.take_succ_eq_append_getElem hlt, kEndR_append]; rfl
      have hKe := kEndR_mono k ps (j+1)
      rw [HKn.out] at hKe
      have hK0 := kEndR_ge k (ps.take j)
      have hsj := hs _ (List.getElem_mem hlt)
      have hbj := HB.out _ (List.getElem_mem hlt)
      obtain ⟨m1, m2, m3⟩ := hm.out
      have hrj := m3 j hlt (Nat.le_refl _)
      have hdrop : ps.drop j = ps[j] :: ps.drop (j+1) := List.drop_eq_getElem_cons hlt
      rw [hdrop] at m1
      have hml : (msR k (ps.take j)).length = j := by rw [msR_length, List.length_take]; omega
      have hrow := mark_rowR (msR k (ps.take j)) ps[j] (ps.drop (j+1)) (kEndR k (ps.take j)) j hml
      have hnext : msR k (ps.take j) ++ [(kEndR k (ps.take j), ps[j])] = msR k (ps.take (j+1)) := by
        rw [List.take_succ_eq_append_getElem hlt, msR_append]; rfl
      have hget := fun m hm => mk_getR (msR k (ps.take j)) (kEndR k (ps.take j)) ps[j] ((ps.drop (j+1)).flatMap RV.cells) j m hml hm
      have HF1j := Lib.hid (HF1.out j hlt)
      have HF2j : Hid (∀ i (hi : i < ps.length), i ≠ j → ∀ u ∈ ps[i].vals, ∀ x ∈ ps[j].vals, ∀ b, x.ownBlock = some b → u.ownBlock ≠ some b) := fun i hi hne u hu x hx b hb hb' => HF2.out i j hi hlt hne u hu x hx b hb' hb
      have HF3j := Lib.hid (HF3.out j hlt)
      have HNX : Hid (MarkingR w0 wr g c ps k j) := hm
      rw [hnext] at hrow hget
      obtain ⟨K, hK⟩ : ∃ K, kEndR k (ps.take j) = K := ⟨_, rfl⟩
      rw [hK] at hrow hget hKe hK0 HKn
      have HK := Lib.hid hK
      have hgx := cells_getR (msR k (ps.take j)) ps[j] (ps.drop (j+1)) j 4 hml (by omega)
      obtain ⟨xs, hxs⟩ : ∃ xs, (msR k (ps.take j)).flatMap mkCells ++ (ps[j] :: ps.drop (j+1)).flatMap RV.cells = xs := ⟨_, rfl⟩
      rw [hxs] at m1 hrow hgx
      simp only [RV.cells, List.getElem?_cons_succ, List.getElem?_cons_zero] at hgx
      obtain ⟨ys, hys⟩ : ∃ ys, (msR k (ps.take (j+1))).flatMap mkCells ++ (ps.drop (j+1)).flatMap RV.cells = ys := ⟨_, rfl⟩
      have HYS := Lib.hid hys
      rw [hys] at hrow hget
      have hxl : xs.length = ps.length * 8 := m1.1
      obtain ⟨Ab, cb, An, cn, At, ct, Ak, ck, v1, v2, v3, v4, _⟩ := hrj.rd hsj
      have HG4 := hget 4 (by omega); have HG5 := hget 5 (by omega); have HG6 := hget 6 (by omega); have HG7 := hget 7 (by omega)
      simp only [mkCells, List.getElem?_cons_succ, List.getElem?_cons_zero] at HG4 HG5 HG6 HG7
      rw [v1] at hgx
      have HGX := Lib.hid hgx
      rw [v1] at HG4; rw [v2] at HG5; rw [v3] at HG6; rw [v4] at HG7
      have L4 := Lib.hid HG4; have L5 := Lib.hid HG5; have L6 := Lib.hid HG6; have L7 := Lib.hid HG7
      have HR := Lib.hid hrow; have Hm1 := Lib.hid m1; have Hm2 := Lib.hid m2; have Hm3 := Lib.hid m3; have HXL := Lib.hid hxl; have V1 := Lib.hid v1; have V2 := Lib.hid v2; have V3 := Lib.hid v3; have V4 := Lib.hid v4
      have HBJ := Lib.hid hbj; have HRJ := Lib.hid hrj
      have hmlen : mlen ps[j].r = 4 + ps[j].r.bytes.length + ps[j].r.names.length + ps[j].r.tags.length + ps[j].r.kids.length := rfl
      have HML := Lib.hid hmlen
      rw [hmlen] at hKe
      have HSJ := Lib.hid hsj
      have MT : Hid (∀ w, Gives Tryz.prog 45 #[.int .i64 (K : Int)] w (.string (markT K))) := fun w => markText_c K w (by omega) (by omega)
      rw [hK]
      clear hgx hrow m1 m2 m3 hxs hys hget HG4 HG5 HG6 HG7 v1 v2 v3 v4 hdrop hml hnext hK hxl hbj hrj hmlen hsj hm
      have hr0 := Hm1.out
      have hxl := HXL.out
      go_wp2_with fail
      refine (MT.out _).mono ?_; rintro _ w1 ⟨rfl, he1⟩
      have hr1 := Own.ext Hm1.out he1
      obtain ⟨⟨u0, hu0⟩, hf0⟩ := hr1.slot (j * 8) (by rw [hxl]; omega)
      obtain ⟨⟨u1, hu1⟩, hf1⟩ := hr1.slot (j * 8 + 1) (by rw [hxl]; omega)
      obtain ⟨⟨u2, hu2⟩, hf2⟩ := hr1.slot (j * 8 + 2) (by rw [hxl]; omega)
      obtain ⟨⟨u3, hu3⟩, hf3⟩ := hr1.slot (j * 8 + 3) (by rw [hxl]; omega)
      have hu4 : w1.cell? ⟨g, j * 8 + 4, none⟩ = some (.slice Ab ps[j].r.bytes.length cb) := by rw [hr1.cellAt (j * 8 + 4) (by omega)]; exact HGX.out
      have HO1 : Hid (Own 97 8 w0 ((((w1.setCell ⟨g, j * 8, none⟩ (.string (markT K))).setCell ⟨g, j * 8 + 1, none⟩ (.int .i64 ((K : Int) + 1))).setCell ⟨g, j * 8 + 2, none⟩ (.int .i64 ((K : Int) + 2))).setCell ⟨g, j * 8 + 3, none⟩ (.bool (((K : Int) + 3) % 3 == 0))) (.slice (some ⟨g, 0, none⟩) ps.length c) ps.length ys) := by
        have := (((hr1.stored (j * 8) (.string (markT K))).1.stored (j * 8 + 1) (.int .i64 ((K : Int) + 1))).1.stored (j * 8 + 2) (.int .i64 ((K : Int) + 2))).1.stored (j * 8 + 3) (.bool (((K : Int) + 3) % 3 == 0))
        have := this.1
        rw [HR.out] at this
        exact this
      have G1 : Hid (wr.grownBy ((((w1.setCell ⟨g, j * 8, none⟩ (.string (markT K))).setCell ⟨g, j * 8 + 1, none⟩ (.int .i64 ((K : Int) + 1))).setCell ⟨g, j * 8 + 2, none⟩ (.int .i64 ((K : Int) + 2))).setCell ⟨g, j * 8 + 3, none⟩ (.bool (((K : Int) + 3) % 3 == 0))) (some g)) :=
        ((((grown_ext he1 (some g)).trans (grown_set _ ⟨g, j * 8, none⟩ _)).trans (grown_set _ ⟨g, j * 8 + 1, none⟩ _)).trans (grown_set _ ⟨g, j * 8 + 2, none⟩ _)).trans (grown_set _ ⟨g, j * 8 + 3, none⟩ _)
      clear hr1 hr0
      go_wp2_with fail
      rw [show (K : Int) + 1 + 1 + 1 + 1 = (K : Int) + 4 by omega, show (K : Int) + 1 + 1 + 1 = (K : Int) + 3 by omega, show (K : Int) + 1 + 1 = (K : Int) + 2 by omega]
      generalize ((((w1.setCell ⟨g, j * 8, none⟩ (.string (markT K))).setCell ⟨g, j * 8 + 1, none⟩ (.int .i64 ((K : Int) + 1))).setCell ⟨g, j * 8 + 2, none⟩ (.int .i64 ((K : Int) + 2))).setCell ⟨g, j * 8 + 3, none⟩ (.bool (((K : Int) + 3) % 3 == 0))) = W1 at *
      clear hu0 hu1 hu2 hu3 hf0 hf1 hf2 hf3 hu4
      have R1 := Lib.hid (HRJ.out.keep G1.out (fun v hv b hb he => HF1j.out v hv (hb.trans he.symm)))
      obtain ⟨d1, d2, d3, d4, d5, d6⟩ := far4 HF3j.out
      have D1 := Lib.hid d1; have D2 := Lib.hid d2; have D3 := Lib.hid d3; have D4 := Lib.hid d4; have D5 := Lib.hid d5; have D6 := Lib.hid d6
      clear d1 d2 d3 d4 d5 d6
      have ob := R1.out.b
      rw [V1.out] at ob
      refine (markByteS_c Ab _ cb ((K : Int) + 4) _ w0 _ ob (by omega) (by omega)).mono ?_; rintro _ w2 ⟨rfl, om1, g2⟩
      rw [← V1.out] at om1 g2
      have M1 := Lib.hid om1; have G2 := Lib.hid g2
      have HO2 := Lib.hid (HO1.out.keep g2 (fun b hb he => HF1j.out ps[j].vb (by simp [RV.vals]) (he.trans hb.symm)))
      have c5 : w2.cell? ⟨g, j * 8 + 5, none⟩ = some (.slice An ps[j].r.names.length cn) := by rw [HO2.out.cellAt (j * 8 + 5) (by omega)]; exact L5.out
      clear ob om1 g2
      go_wp2_with fail
      rw [show (K : Int) + 4 + (ps[j].r.bytes.length : Int) = ((K + 4 + ps[j].r.bytes.length : Nat) : Int) by omega]
      have on := R1.out.n.keep G2.out (fun b hb he => D1.out b he hb)
      rw [V2.out] at on
      refine (markStringS_c An _ cn (K + 4 + ps[j].r.bytes.length) _ w0 _ on (by omega) (by omega)).mono ?_; rintro _ w3 ⟨rfl, om2, g3⟩
      rw [← V2.out] at om2 g3
      have M2 := Lib.hid om2; have G3 := Lib.hid g3
      have HO3 := Lib.hid (HO2.out.keep g3 (fun b hb he => HF1j.out ps[j].vn (by simp [RV.vals]) (he.trans hb.symm)))
      have c6 : w3.cell? ⟨g, j * 8 + 6, none⟩ = some (.slice At ps[j].r.tags.length ct) := by rw [HO3.out.cellAt (j * 8 + 6) (by omega)]; exact L6.out
      clear on om2 g3 c5
      go_wp2_with fail
      have ot := (R1.out.t.keep G2.out (fun b hb he => D2.out b he hb)).keep G3.out (fun b hb he => D4.out b he hb)
      rw [V3.out] at ot
      refine (markIntS_c At _ ct ((K + 4 + ps[j].r.bytes.length + ps[j].r.names.length : Nat) : Int) _ w0 _ ot (by omega) (by omega)).mono ?_; rintro _ w4 ⟨rfl, om3, g4⟩
      rw [← V3.out] at om3 g4
      have M3 := Lib.hid om3; have G4 := Lib.hid g4
      have HO4 := Lib.hid (HO3.out.keep g4 (fun b hb he => HF1j.out ps[j].vt (by simp [RV.vals]) (he.trans hb.symm)))
      have c7 : w4.cell? ⟨g, j * 8 + 7, none⟩ = some (.slice Ak ps[j].r.kids.length ck) := by rw [HO4.out.cellAt (j * 8 + 7) (by omega)]; exact L7.out
      clear ot om3 g4 c6
      go_wp2_with fail
      first
        | rw [show ((K + 4 + ps[j].r.bytes.length + ps[j].r.names.length : Nat) : Int) + (ps[j].r.tags.length : Int) = ((K + 4 + ps[j].r.bytes.length + ps[j].r.names.length + ps[j].r.tags.length : Nat) : Int) by omega]
        | rw [show (K : Int) + 4 + (ps[j].r.bytes.length : Int) + (ps[j].r.names.length : Int) + (ps[j].r.tags.length : Int) = ((K + 4 + ps[j].r.bytes.length + ps[j].r.names.length + ps[j].r.tags.length : Nat) : Int) by omega]
        | trace_state
      have okk := ((R1.out.k.keep G2.out (fun b hb he => D3.out b he hb)).keep G3.out (fun b hb he => D5.out b he hb)).keep G4.out (fun b hb he => D6.out b he hb)
      rw [V4.out] at okk
      refine (markIntS_c Ak _ ck ((K + 4 + ps[j].r.bytes.length + ps[j].r.names.length + ps[j].r.tags.length : Nat) : Int) _ w0 _ okk (by omega) (by omega)).mono ?_; rintro _ w5 ⟨rfl, om4, g5⟩
      rw [← V4.out] at om4 g5
      have M4 := Lib.hid om4; have G5 := Lib.hid g5
      have HO5 := Lib.hid (HO4.out.keep g5 (fun b hb he => HF1j.out ps[j].vk (by simp [RV.vals]) (he.trans hb.symm)))
      clear okk om4 g5 c7
      have hfin : MarkingR w0 w5 g c ps k (j + 1) := by
        refine ⟨by rw [HYS.out]; exact HO5.out, fun i hi' hij => ?_, fun i hi' hij => ?_⟩
        · rcases Nat.lt_or_ge i j with hlt' | hge
          · have q := HF2j.out i hi' (by omega)
            exact ((((((Hm2.out i hi' hlt').keep G1.out (fun v hv b hb he => HF1.out i hi' v hv (hb.trans he.symm))).keep G2.out (fun v hv b hb he => q v hv _ (by simp [RV.vals]) b he hb)).keep G3.out (fun v hv b hb he => q v hv ps[j].vn (by simp [RV.vals]) b he hb)).keep G4.out (fun v hv b hb he => q v hv ps[j].vt (by simp [RV.vals]) b he hb)).keep G5.out (fun v hv b hb he => q v hv ps[j].vk (by simp [RV.vals]) b he hb))
          · obtain rfl : i = j := by omega
            rw [HK.out]
            exact ⟨((M1.out.keep G3.out D1.out).keep G4.out D2.out).keep G5.out D3.out, (M2.out.keep G4.out D4.out).keep G5.out D5.out, M3.out.keep G5.out D6.out, M4.out⟩
        · have q := HF2j.out i hi' (by omega)
          exact ((((((Hm3.out i hi' (by omega)).keep G1.out (fun v hv b hb he => HF1.out i hi' v hv (hb.trans he.symm))).keep G2.out (fun v hv b hb he => q v hv _ (by simp [RV.vals]) b he hb)).keep G3.out (fun v hv b hb he => q v hv ps[j].vn (by simp [RV.vals]) b he hb)).keep G4.out (fun v hv b hb he => q v hv ps[j].vt (by simp [RV.vals]) b he hb)).keep G5.out (fun v hv b hb he => q v hv ps[j].vk (by simp [RV.vals]) b he hb))
      have HFIN := Lib.hid hfin
      have HWR : Hid (Wrote w0.heap.size hi w w5) := (((((hw.trans (Wrote.grown G1.out (fun b hb => by injection hb with hb; subst hb; exact hgB))).trans (Wrote.grown G2.out (fun b hb => HBJ.out _ (by simp [RV.vals]) b hb))).trans (Wrote.grown G3.out (fun b hb => HBJ.out _ (by simp [RV.vals]) b hb))).trans (Wrote.grown G4.out (fun b hb => HBJ.out _ (by simp [RV.vals]) b hb))).trans (Wrote.grown G5.out (fun b hb => HBJ.out _ (by simp [RV.vals]) b hb)))
      clear hfin
      go_wp2
      go_roundw
      case rel => exact ⟨j + 1, by omega, by go_num, by rw [HKn.out, HML.out]; go_num, HFIN, HWR.out⟩
      case measure => simp [intOf]; omega
    · obtain rfl : j = ps.length := by omega
      go_wp2
      go_ret
      rw [List.take_length]
      exact ⟨rfl, hm.out, hw⟩
end Go.Proofs.YtjckcbfpejcpcaaGreatDoor

/- The laws' marks on slices of strings, tested; marks on descriptions, as the laws use them. -/
namespace Go.Proofs.YtjckcbfpejcpcaaGreatDoor
open Go.RowKit Go.Sort

theorem Box.wrote {w w' : World} {g : Nat} {cs : Array Value} {T : TypeId} (h : Box w g cs T) {lo hi : Nat} (hw : Wrote lo hi w w') (hg : g < lo ∨ hi ≤ g) : Box w' g cs T := (hw.block g h.lt hg).trans h
theorem RuleOwn.wrote {w0 w w' : World} {p : RV} (h : RuleOwn w0 w p) {lo hi : Nat} (hw : Wrote lo hi w w') (hv : ∀ v ∈ p.vals, ∀ g, v.ownBlock = some g → g < lo ∨ hi ≤ g) : RuleOwn w0 w' p :=
  ⟨h.b.wrote hw (hv _ (by simp [RV.vals])), h.n.wrote hw (hv _ (by simp [RV.vals])), h.t.wrote hw (hv _ (by simp [RV.vals])), h.k.wrote hw (hv _ (by simp [RV.vals]))⟩
theorem OwnD.wrote {w0 w w' : World} {v : Value} {ps : List RV} (h : OwnD w0 w v ps) {lo hi : Nat} (hw : Wrote lo hi w w') (hv : ∀ u ∈ v :: ps.flatMap RV.vals, ∀ g, u.ownBlock = some g → g < lo ∨ hi ≤ g) : OwnD w0 w' v ps :=
  ⟨h.row.wrote hw (hv _ (by simp)), fun p hp => (h.each p hp).wrote hw (fun u hu => hv u (List.mem_cons_of_mem _ (List.mem_flatMap.2 ⟨p, hp, hu⟩))), h.far⟩
/-- a description copied by a law: its blocks lie from lo on, below hi -/
structure DMade (lo hi : Nat) (w : World) (v : Value) (ps : List RV) : Prop where
  own : ∃ w0 : World, w0.heap.size = lo ∧ OwnD w0 w v ps
  blk : ∀ u ∈ v :: ps.flatMap RV.vals, ∀ b, u.ownBlock = some b → lo ≤ b ∧ b < hi
theorem DMade.ext {lo hi : Nat} {w w' : World} {v : Value} {ps : List RV} (h : DMade lo hi w v ps) (e : Ext w w') : DMade lo hi w' v ps := ⟨let ⟨w0, h0, h1⟩ := h.own; ⟨w0, h0, h1.ext e⟩, h.blk⟩
theorem DMade.wrote {lo hi lo' hi' : Nat} {w w' : World} {v : Value} {ps : List RV} (h : DMade lo hi w v ps) (hw : Wrote lo' hi' w w') (hd : hi ≤ lo' ∨ hi' ≤ lo) : DMade lo hi w' v ps :=
  ⟨let ⟨w0, h0, h1⟩ := h.own; ⟨w0, h0, h1.wrote hw (fun u hu g hg => by have := h.blk u hu g hg; omega)⟩, h.blk⟩
theorem toDesc_o (A : Option Addr) (ds : List DRule) (c : Nat) (w : World) (h : RdD w A ds c) (hz : szD ds ≤ 1048576) :
    Calls Tryz.prog 8 #[vdesc (.slice A ds.length c)] w fun e w' => ∃ A1 c1 ps, e = .returned (vdesc (.slice A1 ds.length c1)) ∧ RdD w' A1 ds c1 ∧ rulesOf ps = ds ∧ DMade w.heap.size w'.heap.size w' (.slice A1 ds.length c1) ps ∧ Ext w w' := by
  refine (toDescription_c A ds c w h hz).mono ?_
  rintro e w' ⟨v, ps, he, rfl, ho, hx⟩
  obtain ⟨A1, c1, rfl, hr⟩ := ho.rd (OwnD.short hz).1 (OwnD.short hz).2
  exact ⟨A1, c1, ps, he, hr, rfl, ⟨⟨w, rfl, ho⟩, ho.block⟩, hx⟩
set_option maxHeartbeats 1000000 in
theorem markDesc_c (A : Option Addr) (n c : Nat) (ps : List RV) (k : Nat) (lo hi : Nat) (w : World) (h : DMade lo hi w (.slice A n c) ps) (hz : szD (rulesOf ps) ≤ 1048576) (hk : 0 < k) (hk2 : k ≤ 100000000) :
    Calls Tryz.prog 14 #[vdesc (.slice A n c), .int .i64 k] w fun e w' => ∃ k' : Nat, k ≤ k' ∧ k' ≤ k + 6000000 ∧ e = .returned (.int .i64 k') ∧ Wrote lo hi w w' := by
  obtain ⟨⟨w0, h0, h1⟩, hb⟩ := h
  subst h0
  have hkE : kEndR k ps ≤ k + 6000000 ∧ k ≤ kEndR k ps := by
    refine ⟨?_, kEndR_ge _ _⟩
    have := kEndR_sz k ps
    unfold szD at hz; rw [rulesOf_len] at hz; omega
  have hsh := (OwnD.short hz).2
  have eb := Ext_alloc (.cells #[.slice A n c] 35) (Ext.refl w)
  have h1' := h1.ext eb
  have C : Hid (Calls Tryz.prog 42 #[.slice A n c, .int .i64 k] (w.alloc (.cells #[.slice A n c] 35)) fun e w' => e = .returned (.int .i64 (kEndR k ps : Nat)) ∧ Wrote w0.heap.size hi (w.alloc (.cells #[.slice A n c] 35)) w') := by
    obtain ⟨A', c', hv⟩ := h1'.shape
    injection hv with q1 q2 q3
    subst q1; subst q2; subst q3
    rcases h1'.row.2 with ⟨hv, h0⟩ | ⟨g, cap, cur, hv, _⟩
    · injection hv with q1 q2 q3
      subst q1; subst q3
      obtain rfl : ps = [] := List.eq_nil_of_length_eq_zero h0
      have hk64 : (k : Int) ≤ 100000000 := by omega
      clear h1 h1' hb hkE hz hsh h0 eb
      show Calls _ _ _ _ _
      go_enter Tryz.func42, Tryz.ntmps42
      go_wp2
      go_loopw [1, 5] (fun kk i wr => i = .int .i64 0 ∧ kk = .int .i64 k ∧ Wrote w0.heap.size hi (w.alloc (.cells #[.slice none 0 0] 35)) wr) (fun _ _ _ => 0)
      case atStart => exact ⟨rfl, rfl, Wrote.refl _ _ _⟩
      case round =>
        obtain ⟨rfl, rfl, he'⟩ := hrel
        go_wp2
        go_ret
        exact ⟨rfl, he'⟩
    · injection hv with q1 q2 q3
      subst q1; subst q3
      exact (markRuleS_c g c ps k w0 _ hi h1' hb hk (by omega) hsh).mono fun e w' ⟨a, _, b⟩ => ⟨a, b⟩
  have HE := Lib.hid hkE
  have W0 : Hid (Wrote w0.heap.size hi w (w.alloc (.cells #[.slice A n c] 35))) := Wrote.ext eb
  clear h1 h1' hb hz hsh hkE
  unfold vdesc
  generalize kEndR k ps = K at *
  have hK1 : K ≤ 200000000 := by have := HE.out; omega
  go_enter Tryz.func14, Tryz.ntmps14
  go_wp2_with fail
  refine C.out.mono ?_; rintro _ w1 ⟨rfl, hw⟩
  have HW := Lib.hid hw; clear hw
  go_wp2
  go_ret
  exact ⟨K, HE.out.2, HE.out.1, rfl, W0.out.trans HW.out⟩
end Go.Proofs.YtjckcbfpejcpcaaGreatDoor

/- The laws' marks on rules and descriptions, tested. -/
namespace Go.Proofs.YtjckcbfpejcpcaaGreatDoor
open Go.RowKit Go.Sort

theorem MarkingR.ext {w0 w w' : World} {g c : Nat} {ps : List RV} {k i : Nat} (h : MarkingR w0 w g c ps k i) (e : Ext w w') : MarkingR w0 w' g c ps k i :=
  ⟨h.row.ext e, fun j a b => (h.done j a b).ext e, fun j a b => (h.todo j a b).ext e⟩
theorem RuleMarked.rd {w0 w : World} {k : Nat} {p : RV} (h : RuleMarked w0 w k p) (hs : ShortR p.r) : ∃ Ab cb An cn At ct Ak ck, p.vb = .slice Ab p.r.bytes.length cb ∧ p.vn = .slice An p.r.names.length cn ∧ p.vt = .slice At p.r.tags.length ct ∧ p.vk = .slice Ak p.r.kids.length ck ∧
    Rd (mk8 ((k : Int) + 4)) w Ab (List.range p.r.bytes.length) cb ∧ Rd (mkT (k + 4 + p.r.bytes.length)) w An (List.range p.r.names.length) cn ∧ Rd (mkI ((k + 4 + p.r.bytes.length + p.r.names.length : Nat) : Int)) w At (List.range p.r.tags.length) ct ∧ Rd (mkI ((k + 4 + p.r.bytes.length + p.r.names.length + p.r.tags.length : Nat) : Int)) w Ak (List.range p.r.kids.length) ck := by
  obtain ⟨s1, s2, s3, s4⟩ := hs
  obtain ⟨Ab, cb, h1, r1⟩ := Own.rd (l := List.range p.r.bytes.length) h.b (by simpa using s1)
  obtain ⟨An, cn, h2, r2⟩ := Own.rd (l := List.range p.r.names.length) h.n (by simpa using s2)
  obtain ⟨At, ct, h3, r3⟩ := Own.rd (l := List.range p.r.tags.length) h.t (by simpa using s3)
  obtain ⟨Ak, ck, h4, r4⟩ := Own.rd (l := List.range p.r.kids.length) h.k (by simpa using s4)
  simp only [List.length_range] at h1 h2 h3 h4
  exact ⟨Ab, cb, An, cn, At, ct, Ak, ck, h1, h2, h3, h4, r1, r2, r3, r4⟩
/-- a description whose rules are marked from k on -/
structure DMarked (lo hi : Nat) (w : World) (v : Value) (ps : List RV) (k : Nat) : Prop where
  own : ∃ w0 : World, w0.heap.size = lo ∧ (v = .slice none 0 0 ∧ ps = [] ∨ ∃ g c, v = .slice (some ⟨g, 0, none⟩) ps.length c ∧ MarkingR w0 w g c ps k ps.length)
theorem DMarked.ext {lo hi : Nat} {w w' : World} {v : Value} {ps : List RV} {k : Nat} (h : DMarked lo hi w v ps k) (e : Ext w w') : DMarked lo hi w' v ps k := by
  obtain ⟨w0, h0, h1⟩ := h.own
  exact ⟨w0, h0, h1.imp id (fun ⟨g, c, a, b⟩ => ⟨g, c, a, b.ext e⟩)⟩
set_option maxHeartbeats 1000000 in
/-- the marks laid over a description, with what they leave -/
theorem markDescK_c (A : Option Addr) (n c : Nat) (ps : List RV) (k : Nat) (lo hi : Nat) (w : World) (hn : n = ps.length) (h : DMade lo hi w (.slice A n c) ps) (hs : ∀ p ∈ ps, ShortR p.r) (hk : 0 < k) (hk2 : kEndR k ps ≤ 100000000) :
    Calls Tryz.prog 14 #[vdesc (.slice A n c), .int .i64 k] w fun e w' => e = .returned (.int .i64 (kEndR k ps : Nat)) ∧ DMarked lo hi w' (.slice A n c) ps k ∧ Wrote lo hi w w' := by
  subst hn
  obtain ⟨⟨w0, h0, h1⟩, hb⟩ := h
  subst h0
  have eb := Ext_alloc (.cells #[.slice A ps.length c] 35) (Ext.refl w)
  have h1' := h1.ext eb
  have hkg := kEndR_ge k ps
  have C : Hid (Calls Tryz.prog 42 #[.slice A ps.length c, .int .i64 k] (w.alloc (.cells #[.slice A ps.length c] 35)) fun e w' => e = .returned (.int .i64 (kEndR k ps : Nat)) ∧ DMarked w0.heap.size hi w' (.slice A ps.length c) ps k ∧ Wrote w0.heap.size hi (w.alloc (.cells #[.slice A ps.length c] 35)) w') := by
    rcases h1'.row.2 with ⟨hv, h0⟩ | ⟨g, cap, cur, hv, _⟩
    · injection hv with q1 q2 q3
      subst q1; subst q3
      obtain rfl : ps = [] := List.eq_nil_of_length_eq_zero h0
      have hk64 : (k : Int) ≤ 100000000 := by simp only [kEndR] at hk2; omega
      have DM : Hid (∀ w', DMarked w0.heap.size hi w' (.slice none 0 0) [] k) := fun w' => ⟨w0, rfl, .inl ⟨rfl, rfl⟩⟩
      clear h1 h1' hb hs hk2 hkg h0
      show Calls _ _ _ _ _
      go_enter Tryz.func42, Tryz.ntmps42
      go_wp2
      go_loopw [1, 5] (fun kk i wr => i = .int .i64 0 ∧ kk = .int .i64 k ∧ Wrote w0.heap.size hi (w.alloc (.cells #[.slice none 0 0] 35)) wr) (fun _ _ _ => 0)
      case atStart => exact ⟨rfl, rfl, Wrote.refl _ _ _⟩
      case round =>
        obtain ⟨rfl, rfl, he'⟩ := hrel
        go_wp2
        go_ret
        exact ⟨rfl, DM.out _, he'⟩
    · injection hv with q1 q2 q3
      subst q1; subst q3
      exact (markRuleS_c g c ps k w0 _ hi h1' hb hk (by omega) hs).mono fun e w' ⟨a, m, b⟩ => ⟨a, ⟨w0, rfl, .inr ⟨g, c, rfl, m⟩⟩, b⟩
  have W0 : Hid (Wrote w0.heap.size hi w (w.alloc (.cells #[.slice A ps.length c] 35))) := Wrote.ext eb
  clear h1 h1' hb hs
  unfold vdesc
  generalize kEndR k ps = K at *
  go_enter Tryz.func14, Tryz.ntmps14
  go_wp2_with fail
  refine C.out.mono ?_; rintro _ w1 ⟨rfl, hm, hw⟩
  have HW := Lib.hid hw; have HM := Lib.hid hm; clear hw hm
  go_wp2
  go_ret
  exact ⟨rfl, HM.out, W0.out.trans HW.out⟩
end Go.Proofs.YtjckcbfpejcpcaaGreatDoor

/- The laws' marks on registries, with what they leave; the same tested. -/
namespace Go.Proofs.YtjckcbfpejcpcaaGreatDoor
open Go.RowKit Go.Sort

theorem RuleMarked.wroteB {w0 w w' : World} {k : Nat} {p : RV} (h : RuleMarked w0 w k p) {B : Nat → Prop} (hw : WroteB B w w') (hv : ∀ v ∈ p.vals, ∀ g, v.ownBlock = some g → ¬ B g) : RuleMarked w0 w' k p :=
  ⟨h.b.wroteB hw (hv _ (by simp [RV.vals])), h.n.wroteB hw (hv _ (by simp [RV.vals])), h.t.wroteB hw (hv _ (by simp [RV.vals])), h.k.wroteB hw (hv _ (by simp [RV.vals]))⟩
theorem OwnG.wrote {w0 w w' : World} {v : Value} {qs : List (Value × List RV)} (h : OwnG w0 w v qs) {lo hi : Nat} (hw : Wrote lo hi w w') (hv : ∀ u ∈ v :: (qs.flatMap fun q => q.1 :: q.2.flatMap RV.vals), ∀ g, u.ownBlock = some g → g < lo ∨ hi ≤ g) : OwnG w0 w' v qs :=
  ⟨h.row.wrote hw (hv _ (List.mem_cons_self ..)), fun p hp => (h.each p hp).wrote hw (fun u hu => hv u (List.mem_cons_of_mem _ (List.mem_flatMap.2 ⟨p, hp, hu⟩))), h.far⟩
theorem GMade.wrote {lo hi lo' hi' : Nat} {w w' : World} {v : Value} {qs : List (Value × List RV)} (h : GMade lo hi w v qs) (hw : Wrote lo' hi' w w') (hd : hi ≤ lo' ∨ hi' ≤ lo) : GMade lo hi w' v qs :=
  ⟨let ⟨w0, h0, h1⟩ := h.own; ⟨w0, h0, h1.wrote hw (fun u hu g hg => by have := h.blk u hu g hg; omega)⟩, h.blk⟩
/-- a version whose rules are marked from k on -/
def MarkedQ (w0 w : World) (q : Value × List RV) (k : Nat) : Prop := (q.1 = .slice none 0 0 ∧ q.2 = []) ∨ ∃ g c, q.1 = .slice (some ⟨g, 0, none⟩) q.2.length c ∧ MarkingR w0 w g c q.2 k q.2.length
theorem MarkedQ.ext {w0 w w' : World} {q : Value × List RV} {k : Nat} (h : MarkedQ w0 w q k) (e : Ext w w') : MarkedQ w0 w' q k := h.imp id (fun ⟨g, c, a, b⟩ => ⟨g, c, a, b.ext e⟩)
theorem MarkedQ.wroteB {w0 w w' : World} {q : Value × List RV} {k : Nat} (h : MarkedQ w0 w q k) {B : Nat → Prop} (hw : WroteB B w w') (hv : ∀ u ∈ q.1 :: q.2.flatMap RV.vals, ∀ b, u.ownBlock = some b → ¬ B b) : MarkedQ w0 w' q k :=
  h.imp id (fun ⟨g, c, a, b⟩ => ⟨g, c, a, ⟨b.row.wroteB hw (fun g' hg' => hv q.1 (List.mem_cons_self ..) g' (by rw [a]; exact hg')), fun j hj hij => (b.done j hj hij).wroteB hw (fun u hu => hv u (List.mem_cons_of_mem _ (List.mem_flatMap.2 ⟨_, List.getElem_mem hj, hu⟩))), fun j hj hij => by omega⟩⟩)
structure GMarked (lo hi : Nat) (w : World) (v : Value) (qs : List (Value × List RV)) (k : Nat) : Prop where
  own : ∃ w0 : World, w0.heap.size = lo ∧ Own 35 1 w0 w v qs.length (qs.map Prod.fst) ∧ ∀ i (hi : i < qs.length), MarkedQ w0 w qs[i] (kEndG k (qs.take i))
theorem GMarked.ext {lo hi : Nat} {w w' : World} {v : Value} {qs : List (Value × List RV)} {k : Nat} (h : GMarked lo hi w v qs k) (e : Ext w w') : GMarked lo hi w' v qs k :=
  let ⟨w0, a, b, c⟩ := h.own; ⟨w0, a, Own.ext b e, fun i hi => (c i hi).ext e⟩
theorem markRuleS_anyK (q : Value × List RV) (k : Nat) (w0 w : World) (B : Nat → Prop) (h : OwnD w0 w q.1 q.2) (hB : ∀ u ∈ q.1 :: q.2.flatMap RV.vals, ∀ b, u.ownBlock = some b → B b) (hk : 0 < k) (hk2 : kEndR k q.2 ≤ 1099511627776) (hs : ∀ p ∈ q.2, ShortR p.r) :
    Calls Tryz.prog 42 #[q.1, .int .i64 k] w fun e w' => e = .returned (.int .i64 (kEndR k q.2 : Nat)) ∧ MarkedQ w0 w' q k ∧ WroteB B w w' := by
  obtain ⟨v, ps⟩ := q
  dsimp only at *
  rcases h.row.2 with ⟨hv, h0⟩ | ⟨g, cap, cur, hv, _⟩
  · subst hv
    obtain rfl : ps = [] := List.eq_nil_of_length_eq_zero h0
    exact (markRuleS_any _ _ k w0 w B h hB hk hk2 hs).mono fun e w' ⟨a, b⟩ => ⟨a, .inl ⟨rfl, rfl⟩, b⟩
  · subst hv
    exact (markRuleS_b g cap ps k w0 w B h hB hk hk2 hs).mono fun e w' ⟨a, m, b⟩ => ⟨a, .inr ⟨g, cap, rfl, m⟩, b⟩
theorem szG_mem1 {ds : List (List DRule)} {n : Nat} (h : szG ds ≤ n + 1) {r : List DRule} (hr : r ∈ ds) : szD r ≤ n := by
  have h1 := sum_mem szD ds r hr
  have h2 := List.length_pos_of_mem hr
  unfold szG at h
  omega
theorem OwnG.rd' {w0 w : World} {A : Option Addr} {c n : Nat} {qs : List (Value × List RV)} {R : List (List DRule)} (h : OwnG w0 w (.slice A n c) qs) (hq : descsOf qs = R) (hn : n = R.length) (hl : R.length ≤ 9223372036854775807) (hl2 : ∀ d ∈ R, d.length ≤ 9223372036854775807) (hs : ShortG R) : RdG w A R c := by
  subst hq; subst hn
  obtain ⟨A', c', hv, hR⟩ := h.rd (by simpa [descsOf] using hl) (fun q hq => by have := hl2 (rulesOf q.2) (List.mem_map_of_mem (f := fun q : Value × List RV => rulesOf q.2) hq); simpa [rulesOf] using this) (fun q hq p hp => hs (rulesOf q.2) (List.mem_map_of_mem (f := fun q : Value × List RV => rulesOf q.2) hq) p.r (List.mem_map_of_mem hp))
  injection hv with q1 _ q2
  subst q1; subst q2; exact hR
theorem szG_lens {R : List (List DRule)} (h : szG R ≤ 1048577) : R.length ≤ 1048577 ∧ ∀ d ∈ R, d.length ≤ 1048577 :=
  ⟨by unfold szG at h; omega, fun d hd => by have := szG_mem1 (n := 1048577) (by omega) hd; unfold szD at this; omega⟩
end Go.Proofs.YtjckcbfpejcpcaaGreatDoor

/- The laws' marks laid over values. -/
namespace Go.Proofs.YtjckcbfpejcpcaaGreatDoor
open Go.RowKit Go.Sort

def mkC (m : Nat × VT) : List Value := [.int .i64 m.1, m.2.vb, m.2.vi]
def msV : Nat → List VT → List (Nat × VT)
  | _, [] => []
  | k, x :: t => (k, x) :: msV (k + 1 + szV x.val) t
def kEndV : Nat → List VT → Nat
  | k, [] => k
  | k, x :: t => kEndV (k + 1 + szV x.val) t
theorem msV_append (k : Nat) (a b : List VT) : msV k (a ++ b) = msV k a ++ msV (kEndV k a) b := by
  induction a generalizing k with
  | nil => rfl
  | cons p t ih => simp [msV, kEndV, ih]
theorem kEndV_append (k : Nat) (a b : List VT) : kEndV k (a ++ b) = kEndV (kEndV k a) b := by
  induction a generalizing k with
  | nil => rfl
  | cons p t ih => simp [kEndV, ih]
theorem msV_length (k : Nat) (a : List VT) : (msV k a).length = a.length := by
  induction a generalizing k with
  | nil => rfl
  | cons p t ih => simp [msV, ih]
theorem mkC_len (ms : List (Nat × VT)) : (ms.flatMap mkC).length = ms.length * 3 := by
  induction ms with
  | nil => rfl
  | cons p t ih => rw [List.flatMap_cons, List.length_append, ih, List.length_cons]; simp [mkC]; omega
theorem kEndV_eq (k : Nat) (a : List VT) : kEndV k a = k + szVs (valsOf a) := by
  induction a generalizing k with
  | nil => rw [kEndV, valsOf, szVs]; rfl
  | cons p t ih => rw [kEndV, ih, valsOf, szVs_cons]; omega
theorem kEndV_ge (k : Nat) (a : List VT) : k ≤ kEndV k a := by rw [kEndV_eq]; omega
theorem kEndV_mono (k : Nat) (a : List VT) (i : Nat) : kEndV k (a.take i) ≤ kEndV k a := by
  conv => rhs; rw [← List.take_append_drop i a, kEndV_append]
  exact kEndV_ge _ _
theorem len_kEndV (k : Nat) (a : List VT) : k + a.length ≤ kEndV k a := by
  rw [kEndV_eq, szVs_sum, valsOf_len]; omega
theorem kEndV_item (k : Nat) (x : VT) : k + x.bs.length ≤ kEndV (k + x.bs.length) x.its ∧ kEndV (k + x.bs.length) x.its = k + szV x.val := by
  rw [kEndV_eq, szV_eq x.val, VT.val_bytes, VT.val_items]; omega
/-- a number is laid into a row -/
theorem mark_rowV (ms : List (Nat × VT)) (p : VT) (rest : List VT) (k i : Nat) (hi : ms.length = i) :
    (ms.flatMap mkC ++ (p :: rest).flatMap VT.cells).set (i * 3) (.int .i64 k) = (ms ++ [(k, p)]).flatMap mkC ++ rest.flatMap VT.cells := by
  have hl : (ms.flatMap mkC).length = i * 3 := by rw [mkC_len, hi]
  rw [List.set_append_right _ _ (by omega), hl, Nat.sub_self]
  simp [VT.cells, mkC, List.flatMap_cons]
theorem mk_getV (ms : List (Nat × VT)) (k : Nat) (p : VT) (rest : List Value) (i m : Nat) (hi : ms.length = i) (hm : m < 3) :
    ((ms ++ [(k, p)]).flatMap mkC ++ rest)[i * 3 + m]? = (mkC (k, p))[m]? := by
  have hl : (ms.flatMap mkC).length = i * 3 := by rw [mkC_len, hi]
  rw [List.flatMap_append, List.flatMap_cons, List.flatMap_nil, List.append_nil, List.append_assoc, List.getElem?_append_right (by omega), hl, show i * 3 + m - i * 3 = m by omega, List.getElem?_append_left (by simp [mkC]; omega)]
theorem cells_getV (ms : List (Nat × VT)) (p : VT) (rest : List VT) (i m : Nat) (hi : ms.length = i) (hm : m < 3) :
    (ms.flatMap mkC ++ (p :: rest).flatMap VT.cells)[i * 3 + m]? = p.cells[m]? := by
  have hl : (ms.flatMap mkC).length = i * 3 := by rw [mkC_len, hi]
  rw [List.getElem?_append_right (by omega), hl, show i * 3 + m - i * 3 = m by omega, List.flatMap_cons, List.getElem?_append_left (by simp [VT.cells]; omega)]
/-- a value's rows, marked from k on (its number apart) -/
inductive MarkedV (w0 w : World) : VT → Nat → Prop
  | mk {t : VT} {k : Nat} (b : Own 5 1 w0 w t.vb t.bs.length ((List.range t.bs.length).map (mk8 k)))
      (i : Own 39 3 w0 w t.vi t.its.length ((msV (k + t.bs.length) t.its).flatMap mkC))
      (kids : ∀ j (h : j < t.its.length), MarkedV w0 w t.its[j] (kEndV (k + t.bs.length) (t.its.take j) + 1)) : MarkedV w0 w t k
theorem MarkedV.wroteB {w0 w w' : World} {t : VT} {k : Nat} (h : MarkedV w0 w t k) {B : Nat → Prop} (hw : WroteB B w w') (hv : ∀ v ∈ t.vals, ∀ g, v.ownBlock = some g → ¬ B g) : MarkedV w0 w' t k := by
  induction h with
  | mk b i kids ih =>
    rename_i t k
    exact .mk (Own.wroteB b hw (hv _ (vb_mem t))) (i.wroteB hw (hv _ (vi_mem t))) (fun j hj => ih j hj (fun v h => hv v (mem_vals (List.getElem_mem hj) h)))
theorem MarkedV.ext {w0 w w' : World} {t : VT} {k : Nat} (h : MarkedV w0 w t k) (e : Ext w w') : MarkedV w0 w' t k := by
  induction h with
  | mk b i kids ih => exact .mk (Own.ext b e) (Own.ext i e) ih
theorem MarkedV.b {w0 w : World} {t : VT} {k : Nat} (h : MarkedV w0 w t k) : Own 5 1 w0 w t.vb t.bs.length ((List.range t.bs.length).map (mk8 k)) := by cases h; assumption
theorem MarkedV.i {w0 w : World} {t : VT} {k : Nat} (h : MarkedV w0 w t k) : Own 39 3 w0 w t.vi t.its.length ((msV (k + t.bs.length) t.its).flatMap mkC) := by cases h; assumption
theorem MarkedV.kids {w0 w : World} {t : VT} {k : Nat} (h : MarkedV w0 w t k) : ∀ j (h : j < t.its.length), MarkedV w0 w t.its[j] (kEndV (k + t.bs.length) (t.its.take j) + 1) := by cases h; assumption
theorem farV_parts {v : Value} {ps : List VT} (h : Far (v :: ps.flatMap VT.vals)) :
    (∀ j (hj : j < ps.length), ∀ u ∈ ps[j].vals, ∀ g, v.ownBlock = some g → u.ownBlock ≠ some g) ∧ (∀ i j (hi : i < ps.length) (hj : j < ps.length), i ≠ j → ∀ u ∈ ps[i].vals, ∀ x ∈ ps[j].vals, ∀ g, u.ownBlock = some g → x.ownBlock ≠ some g) ∧ (∀ j (hj : j < ps.length), Far ps[j].vals) := by
  unfold Far at h
  rw [List.pairwise_cons] at h
  obtain ⟨h1, h2⟩ := h
  rw [List.pairwise_flatMap] at h2
  refine ⟨fun j hj u hu g hg => h1 u (List.mem_flatMap.2 ⟨_, List.getElem_mem hj, hu⟩) g hg, fun i j hi hj hne u hu x hx g hg hg' => ?_, fun j hj => h2.1 _ (List.getElem_mem hj)⟩
  have hp := List.pairwise_iff_getElem.1 h2.2
  rcases Nat.lt_or_ge i j with hlt | hge
  · exact hp i j hi hj hlt u hu x hx g hg hg'
  · exact hp j i hj hi (by omega) x hx u hu g hg' hg
theorem farV_head {t : VT} (h : Far t.vals) : (∀ u ∈ t.vi :: t.its.flatMap VT.vals, ∀ g, t.vb.ownBlock = some g → u.ownBlock ≠ some g) ∧ Far (t.vi :: t.its.flatMap VT.vals) := by
  rw [VT.vals_eq] at h
  unfold Far at *
  rw [List.pairwise_cons] at h
  exact ⟨fun u hu g hg => h.1 u hu g hg, h.2⟩
/-- the blocks of a list of slices' values -/
def blk (vs : List Value) (b : Nat) : Prop := ∃ u ∈ vs, u.ownBlock = some b
def MarkOk (x : VT) : Prop := ∀ (k : Nat) (w0 w : World), OwnTs w0 w x.vi x.its → 0 < k → kEndV k x.its ≤ 100000000 →
  Calls Tryz.prog 44 #[x.vi, .int .i64 k] w fun e w' => e = .returned (.int .i64 (kEndV k x.its : Nat)) ∧ Own 39 3 w0 w' x.vi x.its.length ((msV k x.its).flatMap mkC) ∧ (∀ j (h : j < x.its.length), MarkedV w0 w' x.its[j] (kEndV k (x.its.take j) + 1)) ∧ WroteB (blk (x.vi :: x.its.flatMap VT.vals)) w w'
set_option maxRecDepth 100000 in
set_option maxHeartbeats 8000000 in
theorem markValueS_of (x : VT) (H : ∀ y ∈ x.its, MarkOk y) : MarkOk x := by
  obtain ⟨_, _, _, ps, v⟩ := x
  intro k w0 w ho hk hk2
  dsimp only [VT.its, VT.vi] at *
  obtain ⟨A, c, hvi⟩ := ho.shape
  obtain ⟨f1, f2, f3⟩ := farV_parts ho.far
  have HF1 := Lib.hid (fun j hj u hu g hg => f1 j hj u hu g hg); have HF2 := Lib.hid f2; have HF3 := Lib.hid f3
  have HM : Hid (Own 39 3 w0 w v ps.length ((msV k (ps.take 0)).flatMap mkC ++ (ps.drop 0).flatMap VT.cells)) := by show Own _ _ _ _ _ _ _; simpa [msV] using ho.row
  have HT : Hid (∀ j (hj : j < ps.length), 0 ≤ j → OwnT w0 w ps[j]) := fun j hj _ => ho.each _ (List.getElem_mem hj)
  have HH := Lib.hid H
  have HB := Lib.hid ho.block
  have hn : ps.length ≤ 100000000 := by have := len_kEndV k ps; omega
  clear f1 f2 f3 ho H
  subst hvi
  go_enter Tryz.func44, Tryz.ntmps44
  go_wp2
  go_loopw [1, 5] (fun kk i wr => ∃ j : Nat, j ≤ ps.length ∧ i = .int .i64 j ∧ kk = .int .i64 (kEndV k (ps.take j) : Nat) ∧ Hid (Own 39 3 w0 wr (.slice A ps.length c) ps.length ((msV k (ps.take j)).flatMap mkC ++ (ps.drop j).flatMap VT.cells)) ∧ Hid (∀ i (hi : i < ps.length), j ≤ i → OwnT w0 wr ps[i]) ∧ Hid (∀ i (hi : i < ps.length), i < j → MarkedV w0 wr ps[i] (kEndV k (ps.take i) + 1)) ∧ WroteB (blk (.slice A ps.length c :: ps.flatMap VT.vals)) w wr) (fun _ i _ => ps.length - (intOf i).toNat)
  case atStart => exact ⟨0, by omega, rfl, rfl, HM, HT, (fun i _ h => by omega), WroteB.refl _ _⟩
  case round =>
    clear HM HT
    obtain ⟨j, hj, rfl, rfl, hm, ht, hmk, hw⟩ := hrel
    by_cases hlt : j < ps.length
    · obtain ⟨y, hy⟩ : ∃ y, y = ps[j] := ⟨_, rfl⟩
      have HKn : Hid (kEndV k (ps.take (j+1)) = kEndV (kEndV k (ps.take j) + 1 + y.bs.length) y.its) := by
        show _ = _; rw [List.take_succ_eq_append_getElem hlt, kEndV_append, (kEndV_item (kEndV k (ps.take j) + 1) y).2, hy]; rfl
      have hKe := kEndV_mono k ps (j+1)
      rw [HKn.out] at hKe
      have hK1 := (kEndV_item (kEndV k (ps.take j) + 1) y).1
      have hK0 := kEndV_ge k (ps.take j)
      have hdrop : ps.drop j = ps[j] :: ps.drop (j+1) := List.drop_eq_getElem_cons hlt
      have hml : (msV k (ps.take j)).length = j := by rw [msV_length, List.length_take]; omega
      have m1 := hm.out
      rw [hdrop] at m1
      have hrow := mark_rowV (msV k (ps.take j)) ps[j] (ps.drop (j+1)) (kEndV k (ps.take j)) j hml
      have hnext : msV k (ps.take j) ++ [(kEndV k (ps.take j), ps[j])] = msV k (ps.take (j+1)) := by
        rw [List.take_succ_eq_append_getElem hlt, msV_append]; rfl
      have hget := fun m hm => mk_getV (msV k (ps.take j)) (kEndV k (ps.take j)) ps[j] ((ps.drop (j+1)).flatMap VT.cells) j m hml hm
      have hgx := cells_getV (msV k (ps.take j)) ps[j] (ps.drop (j+1)) j 1 hml (by omega)
      rw [hnext] at hrow hget
      obtain ⟨K, hK⟩ : ∃ K, kEndV k (ps.take j) = K := ⟨_, rfl⟩
      have HK := Lib.hid hK
      obtain ⟨g, cg, hA⟩ : ∃ g cg, (Value.slice A ps.length c) = .slice (some ⟨g, 0, none⟩) ps.length cg := by
        rcases m1.2 with ⟨hv, h0⟩ | ⟨g, cap, cur, hv, _⟩
        · omega
        · exact ⟨g, cap, hv⟩
      injection hA with q1 _ q2
      subst q1; subst q2
      have hty := ht.out j hlt (Nat.le_refl _)
      have HTY : Hid (OwnT w0 wr y) := by rw [hy]; exact hty
      have HFJ : Hid (∀ u ∈ y.vals, u.ownBlock ≠ some g) := fun u hu => HF1.out j hlt u (by rw [← hy]; exact hu) g rfl
      have HFY : Hid (Far y.vals) := by show Far _; rw [hy]; exact HF3.out j hlt
      have HYO : Hid (MarkOk y) := HH.out y (by rw [hy]; exact List.getElem_mem hlt)
      have HOT : Hid (∀ i (hi : i < ps.length), i ≠ j → ∀ u ∈ ps[i].vals, ∀ b, u.ownBlock = some b → ¬ (b = g ∨ blk y.vals b)) := fun i hi hne u hu b hb hB => by
        rcases hB with rfl | ⟨q, hq, hqb⟩
        · exact HF1.out i hi u hu b rfl hb
        · exact HF2.out i j hi hlt hne u hu q (by rw [← hy]; exact hq) b hb hqb
      have HIN : Hid (∀ b, (b = g ∨ blk y.vals b) → blk (.slice (some ⟨g, 0, none⟩) ps.length c :: ps.flatMap VT.vals) b) := fun b hB => by
        rcases hB with rfl | ⟨q, hq, hqb⟩
        · exact ⟨_, List.mem_cons_self .., rfl⟩
        · exact ⟨q, List.mem_cons_of_mem _ (List.mem_flatMap.2 ⟨y, by rw [hy]; exact List.getElem_mem hlt, hq⟩), hqb⟩
      rw [← hy] at m1 hrow hget hgx
      obtain ⟨Ab, cb, hvb⟩ := Own.shape hty.b
      obtain ⟨Ai, ci, hvi⟩ := Own.shape hty.i
      rw [← hy] at hvb hvi
      have hl1 : (.slice Ab y.bs.length cb : Value) = y.vb := hvb.symm
      have hl2 : (.slice Ai y.its.length ci : Value) = y.vi := hvi.symm
      rw [hK] at hrow hget hKe hK0 HKn hK1 ⊢
      have L2 : Hid (((msV k (ps.take (j+1))).flatMap mkC ++ (ps.drop (j+1)).flatMap VT.cells)[j * 3 + 2]? = some (.slice Ai y.its.length ci)) := by
        show _ = _; rw [hget 2 (by omega), hl2]; rfl
      have hu1 : wr.cell? ⟨g, j * 3 + 1, none⟩ = some (.slice Ab y.bs.length cb) := by
        rw [m1.cellAt (j * 3 + 1) (by have := m1.1; omega), hgx, hl1]; rfl
      obtain ⟨⟨u0, hu0⟩, hf0⟩ := m1.slot (j * 3) (by rw [m1.1]; omega)
      have HO1 : Hid (Own 39 3 w0 (wr.setCell ⟨g, j * 3, none⟩ (.int .i64 K)) (.slice (some ⟨g, 0, none⟩) ps.length c) ps.length ((msV k (ps.take (j+1))).flatMap mkC ++ (ps.drop (j+1)).flatMap VT.cells)) := by
        have := (m1.stored (j * 3) (.int .i64 K)).1
        rw [hrow] at this
        exact this
      have G1 : Hid (WroteB (fun b => b = g) wr (wr.setCell ⟨g, j * 3, none⟩ (.int .i64 K))) := WroteB.grown (grown_set wr ⟨g, j * 3, none⟩ _) (fun b hb => by injection hb with hb; exact hb.symm)
      have HYY := Lib.hid hy; have HYL := Lib.hid hl1; have HYI := Lib.hid hl2
      have HW := Lib.hid hw
      have b1 : (j : Int) < (ps.length : Int) := by omega
      clear hK m1 hrow hget hgx hnext hml hdrop hy hty hvb hvi hl1 hl2 hw hm
      go_wp2_with fail
      generalize wr.setCell ⟨g, j * 3, none⟩ (.int .i64 K) = W1 at *
      clear hu0 hf0 hu1
      have T1 := Lib.hid (HTY.out.wroteB G1.out (fun v hv b hb e => HFJ.out v hv (hb.trans (congrArg some e))))
      obtain ⟨d1, d2⟩ := farV_head HFY.out
      have ob := OwnT.b T1.out
      rw [← HYL.out] at ob
      refine (markByteS_c Ab _ cb ((K : Int) + 1) _ w0 _ ob (by omega) (by omega)).mono ?_; rintro _ w2 ⟨rfl, om, g2⟩
      rw [HYL.out] at om g2
      have G2 : Hid (WroteB (fun b => y.vb.ownBlock = some b) W1 w2) := WroteB.grown g2 (fun b hb => hb)
      have HO2 := Lib.hid (Own.wroteB HO1.out G2.out (fun b hb e => by injection hb with hb; subst hb; exact HFJ.out y.vb (vb_mem y) e))
      have c2 : w2.cell? ⟨g, j * 3 + 2, none⟩ = some (.slice Ai y.its.length ci) := by rw [HO2.out.cellAt (j * 3 + 2) (by omega)]; exact L2.out
      have TS : Hid (OwnTs w0 w2 y.vi y.its) := ⟨Own.wroteB (OwnT.i T1.out) G2.out (fun b hb e => d1 _ (List.mem_cons_self ..) b e hb), fun p hp => (OwnT.kids T1.out p hp).wroteB G2.out (fun u hu b hb e => d1 u (List.mem_cons_of_mem _ (List.mem_flatMap.2 ⟨p, hp, hu⟩)) b e hb), d2⟩
      have C3 := HYO.out (K + 1 + y.bs.length) w0 w2 TS.out (by omega) (by omega)
      rw [← HYI.out] at C3
      have D1 := Lib.hid d1; have OM := Lib.hid om
      have C3 := Lib.hid C3
      clear ob om g2 d1 d2
      go_wp2_with fail
      rw [show (K : Int) + 1 + (y.bs.length : Int) = ((K + 1 + y.bs.length : Nat) : Int) by omega]
      refine C3.out.mono ?_; rintro _ w3 ⟨rfl, om3, mk3, g3⟩
      rw [HYI.out] at om3 g3
      have HO3 := Lib.hid (Own.wroteB HO2.out g3 (fun b hb ⟨u, hu, hub⟩ => by
        injection hb with hb; subst hb
        exact HFJ.out u (by rw [VT.vals_eq]; exact List.mem_cons_of_mem _ hu) hub))
      have MY : Hid (MarkedV w0 w3 y (K + 1)) := .mk (by
        have := Own.wroteB OM.out g3 (fun b hb ⟨u, hu, hub⟩ => D1.out u hu b hb hub)
        exact this) om3 mk3
      have GW : Hid (WroteB (fun b => b = g ∨ blk y.vals b) wr w3) := ((G1.out.mono (fun b hb => .inl hb)).trans (G2.out.mono (fun b hb => .inr ⟨_, vb_mem y, hb⟩))).trans (g3.mono (fun b ⟨u, hu, hub⟩ => .inr ⟨u, by rw [VT.vals_eq]; exact List.mem_cons_of_mem _ hu, hub⟩))
      have N1 : Hid (∀ i (hi : i < ps.length), j + 1 ≤ i → OwnT w0 w3 ps[i]) := fun i hi hji => (ht.out i hi (by omega)).wroteB GW.out (HOT.out i hi (by omega))
      have N2 : Hid (∀ i (hi : i < ps.length), i < j + 1 → MarkedV w0 w3 ps[i] (kEndV k (ps.take i) + 1)) := fun i hi hij => by
        rcases (by omega : i < j ∨ i = j) with h9 | rfl
        · exact (hmk.out i hi h9).wroteB GW.out (HOT.out i hi (by omega))
        · rw [HK.out, ← HYY.out]; exact MY.out
      have N3 : Hid (WroteB (blk (.slice (some ⟨g, 0, none⟩) ps.length c :: ps.flatMap VT.vals)) w w3) := HW.out.trans (GW.out.mono HIN.out)
      clear om3 mk3 g3 c2
      go_wp2
      go_roundw
      case rel => exact ⟨j + 1, by omega, by go_num, by rw [HKn.out], HO3, N1, N2, N3.out⟩
      case measure => simp [intOf]; omega
    · obtain rfl : j = ps.length := by omega
      go_wp2
      go_ret
      have h1 := hm.out; rw [List.take_length, List.drop_length, List.flatMap_nil, List.append_nil] at h1
      rw [List.take_length]
      exact ⟨rfl, h1, fun i hi => hmk.out i hi hi, hw⟩
end Go.Proofs.YtjckcbfpejcpcaaGreatDoor

/- The laws' marks on values, tested; on a value alone. -/
namespace Go.Proofs.YtjckcbfpejcpcaaGreatDoor
open Go.RowKit Go.Sort

theorem markOk_all : ∀ x, MarkOk x := VT.ind markValueS_of
def HeldOk (x : VT) : Prop := ∀ (k : Nat) (w0 w : World), Own 39 3 w0 w x.vi x.its.length ((msV k x.its).flatMap mkC) → (∀ j (h : j < x.its.length), MarkedV w0 w x.its[j] (kEndV k (x.its.take j) + 1)) → 0 < k → kEndV k x.its ≤ 100000000 →
  Gives Tryz.prog 47 #[x.vi, .int .i64 k] w (.int .i64 (kEndV k x.its : Nat))
set_option maxRecDepth 100000 in
set_option maxHeartbeats 8000000 in
theorem heldValueS_of (x : VT) (H : ∀ y ∈ x.its, HeldOk y) : HeldOk x := by
  obtain ⟨_, _, _, ps, v⟩ := x
  intro k w0 w ho hmk hk hk2
  dsimp only [VT.its, VT.vi] at *
  obtain ⟨A, c, hvi⟩ := ho.shape
  subst hvi
  have HR := Lib.hid ho; have HM := Lib.hid hmk; have HH := Lib.hid H
  have hn : ps.length ≤ 100000000 := by have := len_kEndV k ps; omega
  clear ho hmk H
  go_enter Tryz.func47, Tryz.ntmps47
  go_wp2
  go_loopw [1, 5] (fun kk i wr => ∃ j : Nat, j ≤ ps.length ∧ i = .int .i64 j ∧ kk = .int .i64 (kEndV k (ps.take j) : Nat) ∧ Ext w wr) (fun _ i _ => ps.length - (intOf i).toNat)
  case atStart => exact ⟨0, by omega, rfl, rfl, Ext.refl _⟩
  case round =>
    obtain ⟨j, hj, rfl, rfl, he⟩ := hrel
    by_cases hlt : j < ps.length
    · obtain ⟨y, hy⟩ : ∃ y, y = ps[j] := ⟨_, rfl⟩
      have HKn : Hid (kEndV k (ps.take (j+1)) = kEndV (kEndV k (ps.take j) + 1 + y.bs.length) y.its) := by
        show _ = _; rw [List.take_succ_eq_append_getElem hlt, kEndV_append, (kEndV_item (kEndV k (ps.take j) + 1) y).2, hy]; rfl
      have hKe := kEndV_mono k ps (j+1)
      rw [HKn.out] at hKe
      have hK1 := (kEndV_item (kEndV k (ps.take j) + 1) y).1
      have hK0 := kEndV_ge k (ps.take j)
      have hml : (msV k (ps.take j)).length = j := by rw [msV_length, List.length_take]; omega
      have hsp : msV k ps = (msV k (ps.take j) ++ [(kEndV k (ps.take j), ps[j])]) ++ msV (kEndV k (ps.take (j+1))) (ps.drop (j+1)) := by
        conv => lhs; rw [← List.take_append_drop (j+1) ps, msV_append]
        rw [List.take_succ_eq_append_getElem hlt, msV_append, kEndV_append]; rfl
      have hget := fun m hm => mk_getV (msV k (ps.take j)) (kEndV k (ps.take j)) ps[j] ((msV (kEndV k (ps.take (j+1))) (ps.drop (j+1))).flatMap mkC) j m hml hm
      rw [← List.flatMap_append, ← hsp] at hget
      have hdn := HM.out j hlt
      have hYO := HH.out _ (List.getElem_mem hlt)
      rw [← hy] at hget hdn hYO
      have hxl : ((msV k ps).flatMap mkC).length = ps.length * 3 := by rw [mkC_len, msV_length]
      obtain ⟨K, hK⟩ : ∃ K, kEndV k (ps.take j) = K := ⟨_, rfl⟩
      rw [hK] at hget hKe hK0 HKn hK1 hdn ⊢
      clear hsp hml hK hy
      have hrow := HR.out
      obtain ⟨g, cg, hA⟩ : ∃ g cg, (Value.slice A ps.length c) = .slice (some ⟨g, 0, none⟩) ps.length cg := by
        rcases hrow.2 with ⟨hv, h0⟩ | ⟨g, cap, cur, hv, _⟩
        · omega
        · exact ⟨g, cap, hv⟩
      injection hA with q1 _ q2
      subst q1; subst q2
      have hcell : ∀ m (hm : m < 3) w', Ext w w' → w'.cell? ⟨g, j * 3 + m, none⟩ = (mkC (K, y))[m]? := fun m hm w' e => by
        rw [(Own.ext hrow e).cellAt (j * 3 + m) (by omega)]; exact hget m hm
      obtain ⟨Ab, cb, hvb, r1⟩ := Own.rd (l := List.range y.bs.length) (by simpa using hdn.b) (by simp; omega)
      obtain ⟨Ai, ci, hvi⟩ := Own.shape hdn.i
      simp only [List.length_range] at hvb
      have q0 := hcell 0 (by omega); have q1 := hcell 1 (by omega); have q2 := hcell 2 (by omega)
      simp only [mkC, List.getElem?_cons_succ, List.getElem?_cons_zero, hvb, hvi, Nat.add_zero] at q0 q1 q2
      have C2 : Hid (∀ w', Ext w w' → Gives Tryz.prog 47 #[.slice Ai y.its.length ci, .int .i64 ((K + 1 + y.bs.length : Nat) : Int)] w' (.int .i64 (kEndV (K + 1 + y.bs.length) y.its : Nat))) := fun w' e => by
        rw [← hvi]; exact hYO _ w0 w' (Own.ext hdn.i e) (fun i hi => (hdn.kids i hi).ext e) (by omega) (by omega)
      clear hcell hget hdn hrow hvb hvi hYO hxl
      generalize kEndV (K + 1 + y.bs.length) y.its = K2 at *
      generalize y.its.length = ni at *
      generalize y.bs.length = nb at *
      have C1 : Hid (∀ w', Ext w w' → Gives Tryz.prog 46 #[.slice Ab nb cb, .int .i64 ((K : Int) + 1)] w' (.int .i64 ((K : Int) + 1 + nb))) := fun w' e => heldByteS_c Ab nb cb _ w' (r1.ext e) (by omega) (by omega)
      clear r1
      have b1 : (j : Int) < (ps.length : Int) := by omega
      have d1 : decide ((K : Int) + 1 + (nb : Int) < 0) = false := decide_eq_false (by omega)
      have d2 : decide ((K2 : Int) < 0) = false := decide_eq_false (by omega)
      go_wp2_with fail
      refine (C1.out _ he).mono ?_; rintro _ w2 ⟨rfl, s2⟩
      have e2 := he.trans s2
      go_wp2_with fail
      rw [show (K : Int) + 1 + (nb : Int) = ((K + 1 + nb : Nat) : Int) by omega]
      refine (C2.out _ e2).mono ?_; rintro _ w3 ⟨rfl, s3⟩
      have e3 := e2.trans s3
      go_wp2
      go_roundw
      case rel => exact ⟨j + 1, by omega, by go_num, by rw [HKn.out], e3⟩
      case measure => simp [intOf]; omega
    · obtain rfl : j = ps.length := by omega
      go_wp2
      go_ret
      rw [List.take_length]
      exact ⟨rfl, he⟩
theorem heldOk_all : ∀ x, HeldOk x := VT.ind heldValueS_of
/-- a value copied by a law -/
structure VMade (lo hi : Nat) (w : World) (t : VT) (v : DVal) : Prop where
  val : t.val = v
  own : ∃ w0 : World, w0.heap.size = lo ∧ OwnT w0 w t
  blk : ∀ u ∈ t.vals, ∀ b, u.ownBlock = some b → lo ≤ b ∧ b < hi
  far : Far t.vals
theorem VMade.ext {lo hi : Nat} {w w' : World} {t : VT} {v : DVal} (h : VMade lo hi w t v) (e : Ext w w') : VMade lo hi w' t v := ⟨h.val, let ⟨w0, h0, h1⟩ := h.own; ⟨w0, h0, h1.ext e⟩, h.blk, h.far⟩
theorem VMade.wrote {lo hi lo' hi' : Nat} {w w' : World} {t : VT} {v : DVal} (h : VMade lo hi w t v) (hw : Wrote lo' hi' w w') (hd : hi ≤ lo' ∨ hi' ≤ lo) : VMade lo hi w' t v :=
  ⟨h.val, let ⟨w0, h0, h1⟩ := h.own; ⟨w0, h0, h1.wrote hw (fun u hu g hg => by have := h.blk u hu g hg; omega)⟩, h.blk, h.far⟩
theorem GotV.made {w w' : World} {t : VT} {v : DVal} (h : GotV w w' t v) : VMade w.heap.size w'.heap.size w' t v := ⟨h.val, ⟨w, rfl, h.own⟩, fun u hu b hb => h.own.block u hu b hb, h.far⟩
set_option maxHeartbeats 4000000 in
theorem markValue_c (t : VT) (v : DVal) (k lo hi : Nat) (w : World) (Ab : Option Addr) (cb : Nat) (Ai : Option Addr) (ci : Nat) (hvb : t.vb = .slice Ab v.bytes.length cb) (hvi : t.vi = .slice Ai v.items.length ci) (h : VMade lo hi w t v) (hz : szV v ≤ 1048576) (hk : 0 < k) (hk2 : k ≤ 90000000) :
    Calls Tryz.prog 15 #[vval v (.slice Ab v.bytes.length cb) (.slice Ai v.items.length ci), .int .i64 k] w fun e w' => e = .returned (.int .i64 (k + szV v : Nat)) ∧ Wrote lo hi w w' := by
  obtain ⟨w0, h0, h1⟩ := h.own
  have eb := Ext_alloc (.cells #[.int .i64 v.num, .slice Ab v.bytes.length cb, .slice Ai v.items.length ci] 39) (Ext.refl w)
  have bx := Box.new w #[.int .i64 v.num, .slice Ab v.bytes.length cb, .slice Ai v.items.length ci] 39
  obtain ⟨d1, d2⟩ := farV_head h.far
  have hb : v.bytes.length = t.bs.length := by rw [← h.val, VT.val_bytes]
  have hi1 : v.items.length = t.its.length := by rw [← h.val, VT.val_items, valsOf_len]
  obtain ⟨q1, q2⟩ := kEndV_item k t
  rw [h.val] at q2
  have hblt : ∀ u ∈ t.vals, u.ownBlock ≠ some w.heap.size := fun u hu he => by
    have := (h1.block u hu _ he).2; omega
  rw [hb] at hvb eb bx ⊢; rw [hi1] at hvi eb bx ⊢
  have hT := h1.ext eb
  have hblk := h.blk
  have HT := Lib.hid hT; have HVB := Lib.hid hvb; have HVI := Lib.hid hvi; have D1 := Lib.hid d1; have D2 := Lib.hid d2; have HBK := Lib.hid hblk; have HBL := Lib.hid hblt
  have Q2 := Lib.hid q2
  clear hT d1 d2 hblk hblt h h1 hvb hvi
  have BX := Lib.hid bx; clear bx
  unfold vval
  generalize v.num = num at *
  clear hi1 hb
  have z1 := BX.out.cell 1
  simp only [List.getElem?_toArray, List.getElem?_cons_zero, List.getElem?_cons_succ] at z1
  go_enter Tryz.func15, Tryz.ntmps15
  have ob := OwnT.b HT.out
  rw [HVB.out] at ob
  go_wp2_with fail
  generalize (w.alloc (.cells #[.int .i64 num, .slice Ab t.bs.length cb, .slice Ai t.its.length ci] 39)) = W0 at *
  refine (markByteS_c Ab _ cb (k : Int) _ w0 _ ob (by omega) (by omega)).mono ?_; rintro _ w2 ⟨rfl, om, g2⟩
  rw [← HVB.out] at g2
  have G2 : Hid (WroteB (fun b => t.vb.ownBlock = some b) W0 w2) := WroteB.grown g2 (fun b hb => hb)
  have HW2 : Hid (WroteB (blk t.vals) W0 w2) := G2.out.mono (fun b hb => ⟨_, vb_mem t, hb⟩)
  have TS : Hid (OwnTs w0 w2 t.vi t.its) := ⟨Own.wroteB (OwnT.i HT.out) G2.out (fun b hb e => D1.out _ (List.mem_cons_self ..) b e hb), fun p hp => (OwnT.kids HT.out p hp).wroteB G2.out (fun u hu b hb e => D1.out u (List.mem_cons_of_mem _ (List.mem_flatMap.2 ⟨p, hp, hu⟩)) b e hb), D2.out⟩
  have C3 := markOk_all t (k + t.bs.length) w0 w2 TS.out (by omega) (by omega)
  rw [HVI.out] at C3
  have C3 := Lib.hid C3
  have BX2 : Hid (Box w2 w.heap.size #[.int .i64 num, .slice Ab t.bs.length cb, .slice Ai t.its.length ci] 39) := (HW2.out.block _ BX.out.lt (fun ⟨u, hu, hub⟩ => HBL.out u hu hub)).trans BX.out
  have z2 := BX2.out.cell 2
  simp only [List.getElem?_toArray, List.getElem?_cons_zero, List.getElem?_cons_succ] at z2
  clear ob om g2 z1
  go_wp2_with fail
  rw [show (k : Int) + (t.bs.length : Int) = ((k + t.bs.length : Nat) : Int) by omega]
  refine C3.out.mono ?_; rintro _ w3 ⟨rfl, _, _, g3⟩
  rw [← HVI.out] at g3
  have HW3 : Hid (WroteB (blk t.vals) W0 w3) := HW2.out.trans (g3.mono (fun b ⟨u, hu, hub⟩ => ⟨u, by rw [VT.vals_eq]; exact List.mem_cons_of_mem _ hu, hub⟩))
  clear g3 z2
  go_wp2
  go_ret
  exact ⟨rfl, ((WroteB.ext (B := blk t.vals) eb).trans HW3.out).wrote (fun b ⟨u, hu, hub⟩ => HBK.out u hu b hub)⟩
end Go.Proofs.YtjckcbfpejcpcaaGreatDoor

/- Lists of changes as they read; compared with the like. -/
namespace Go.Proofs.YtjckcbfpejcpcaaGreatDoor
open Go.RowKit Go.Sort

/-- the sizes of a list of changes, with their paths' and numbers' places -/
def szCh (cs : List (ByteArray × DVal)) : Nat := (cs.map fun c => 1 + szV c.2).sum
theorem szCh_append (a b : List (ByteArray × DVal)) : szCh (a ++ b) = szCh a + szCh b := by simp [szCh]
theorem szCh_mem {cs : List (ByteArray × DVal)} {c : ByteArray × DVal} (h : c ∈ cs) : 1 + szV c.2 ≤ szCh cs := sum_mem (fun c : ByteArray × DVal => 1 + szV c.2) cs c h
theorem szCh_len (cs : List (ByteArray × DVal)) : cs.length ≤ szCh cs := by
  induction cs with
  | nil => simp
  | cons c t ih => have : szCh (c :: t) = 1 + szV c.2 + szCh t := by simp [szCh]
                   rw [this, List.length_cons]; omega
theorem diffV_szCh (ds : List DRule) : ∀ (b : DVal) (a : DVal) (i : Nat) (p : ByteArray), szCh (diffV ds i a b p) ≤ 1 + szV b := by
  intro b
  refine DVal.ind (P := fun b => ∀ (a : DVal) (i : Nat) (p : ByteArray), szCh (diffV ds i a b p) ≤ 1 + szV b) ?_ b
  clear b
  intro b ih a i p
  have hs : ∀ (u : List DVal) (r : DRule) (n : Int) (k : Nat) (l : List DVal) (p : ByteArray), (∀ x ∈ u, x ∈ b.items) → szCh (diffVs ds r n k l u p) ≤ szVs u := by
    intro u
    induction u with
    | nil =>
      intro r n k l p _
      cases l with
      | nil => rw [diffVs_nil]; simp [szCh]
      | cons x t => rw [diffVs]; simp [szCh]
    | cons y u ihu =>
      intro r n k l p hu
      cases l with
      | nil => rw [diffVs_nil]; simp [szCh]
      | cons x t =>
        rw [diffVs, szCh_append, szVs_cons]
        have h1 := ih y (hu y (List.mem_cons_self ..)) x (kidV r n k) (under p r k)
        have h2 := ihu r n (k + 1) t p (fun z hz => hu z (List.mem_cons_of_mem _ hz))
        omega
  cases he : eqV a b
  · cases ha : alikeV a b
    · rw [diffV_whole he ha]; simp [szCh]
    · have e : diffV ds i a b p = diffVs ds (ds.getD i noRule) a.num 0 a.items b.items p := by
        cases a; rw [diffV, he, if_neg (by simp), ha, if_pos rfl]; rfl
      rw [e]
      have h1 := hs b.items (ds.getD i noRule) a.num 0 a.items p (fun _ h => h)
      have h2 := szVs_le_szV b
      omega
  · rw [eqV_iff.1 he, diffV_same]; simp [szCh]
/-- a slice of changes that reads as its -/
structure RdC (w : World) (A : Option Addr) (cs : List (ByteArray × DVal)) (c : Nat) : Prop where
  cap : cs.length ≤ c
  len : cs.length ≤ 9223372036854775807
  get : ∀ i (hi : i < cs.length), ∃ b off Ab cb Ai ci, A = some ⟨b, off, none⟩ ∧ b < w.heap.size ∧ RdV w cs[i].2 Ab cb Ai ci ∧ ∀ (w' : World), Ext w w' → ∀ j, j < 4 →
    w'.cell? ⟨b, off + i * 4 + j, none⟩ = ([.string cs[i].1, .int .i64 cs[i].2.num, .slice Ab cs[i].2.bytes.length cb, .slice Ai cs[i].2.items.length ci] : List Value)[j]?
theorem RdC.ext {w w' : World} {A : Option Addr} {cs : List (ByteArray × DVal)} {c : Nat} (h : RdC w A cs c) (e : Ext w w') : RdC w' A cs c :=
  ⟨h.cap, h.len, fun i hi => let ⟨b, off, Ab, cb, Ai, ci, h1, h2, h3, h4⟩ := h.get i hi; ⟨b, off, Ab, cb, Ai, ci, h1, Nat.lt_of_lt_of_le h2 e.size, h3.ext e, fun w1 e1 => h4 w1 (e.trans e1)⟩⟩
theorem ccells_get : ∀ (ps : List CT) (i j : Nat) (h : i < ps.length), j < 4 → (ps.flatMap ccells)[i * 4 + j]? = (ccells ps[i])[j]? := by
  intro ps
  induction ps with
  | nil => intro i j h; simp at h
  | cons p t ih =>
    intro i j h hj
    rw [List.flatMap_cons]
    cases i with
    | zero =>
      rw [List.getElem?_append_left (by simp [ccells, VT.cells]; omega)]
      simp
    | succ i =>
      rw [List.getElem?_append_right (by simp [ccells, VT.cells]; omega)]
      have : (i + 1) * 4 + j - (ccells p).length = i * 4 + j := by simp [ccells, VT.cells]; omega
      rw [this, ih i j (by simpa using h) hj]
      simp
theorem OwnC.rd {w0 w : World} {v : Value} {cs : List CT} (h : OwnC w0 w v cs) (hz : szCh (chOf cs) ≤ 140737488351232) : ∃ A c, v = .slice A (chOf cs).length c ∧ RdC w A (chOf cs) c := by
  have hlen := chOf_len cs
  have hl := szCh_len (chOf cs)
  rcases h.row.2 with ⟨rfl, h0⟩ | ⟨g, cap, cur, rfl, hb, hg, hnc, hcm, hcs, htake⟩
  · refine ⟨none, 0, by rw [hlen, h0], ⟨by omega, by omega, fun i hi => by omega⟩⟩
  · refine ⟨_, _, by rw [hlen], ⟨by omega, by omega, fun i hi => ?_⟩⟩
    have hi' : i < cs.length := by omega
    have he : (chOf cs)[i] = (cs[i].1, cs[i].2.val) := by simp [chOf]
    rw [he]
    have hm := szCh_mem (List.getElem_mem hi)
    rw [he] at hm
    obtain ⟨Ab, cb, Ai, ci, e1, e2, hR⟩ := (h.each _ (List.getElem_mem hi')).rd (by simp only at hm; omega)
    refine ⟨g, 0, Ab, cb, Ai, ci, rfl, (Array.getElem?_eq_some_iff.1 hg).1, hR, fun w' e j hj => ?_⟩
    dsimp only
    rw [Nat.zero_add, heap_row hg e, ← e1, ← e2, show ([.string cs[i].1, .int .i64 cs[i].2.val.num, cs[i].2.vb, cs[i].2.vi] : List Value) = ccells cs[i] by simp [ccells, VT.cells, VT.val_num], ← ccells_get cs i j hi' hj, ← htake, List.getElem?_take, if_pos (by omega)]
    simp
set_option maxRecDepth 100000 in
set_option maxHeartbeats 4000000 in
theorem eqChange_same (p : ByteArray) (v : DVal) (Ab : Option Addr) (cb : Nat) (Ai : Option Addr) (ci : Nat) (Ab' : Option Addr) (cb' : Nat) (Ai' : Option Addr) (ci' : Nat) (w : World) (h : RdV w v Ab cb Ai ci) (h' : RdV w v Ab' cb' Ai' ci') (hz : szV v ≤ 140737488351232) :
    Gives Tryz.prog 38 #[.agg #[.string p, .int .i64 v.num, .slice Ab v.bytes.length cb, .slice Ai v.items.length ci], .agg #[.string p, .int .i64 v.num, .slice Ab' v.bytes.length cb', .slice Ai' v.items.length ci']] w (.bool true) := by
  have eb := Ext_alloc (.cells #[.string p, .int .i64 v.num, .slice Ab' v.bytes.length cb', .slice Ai' v.items.length ci'] 58) (Ext_alloc (.cells #[.string p, .int .i64 v.num, .slice Ab v.bytes.length cb, .slice Ai v.items.length ci] 58) (Ext.refl w))
  have BX := fun w' (e : Ext ((w.alloc (.cells #[.string p, .int .i64 v.num, .slice Ab v.bytes.length cb, .slice Ai v.items.length ci] 58)).alloc (.cells #[.string p, .int .i64 v.num, .slice Ab' v.bytes.length cb', .slice Ai' v.items.length ci'] 58)) w') => boxed2 e
  have B0 := fun w' e => (BX w' e).1
  have B1 := fun w' e => (BX w' e).2.1
  have C : Hid (∀ w', RdV w' v Ab cb Ai ci → RdV w' v Ab' cb' Ai' ci' → Gives Tryz.prog 13 #[.agg #[.int .i64 v.num, .slice Ab v.bytes.length cb, .slice Ai v.items.length ci], .agg #[.int .i64 v.num, .slice Ab' v.bytes.length cb', .slice Ai' v.items.length ci']] w' (.bool true)) := fun w' h h' => by
    have := eqOk_all v v Ab cb Ai ci Ab' cb' Ai' ci' w' h h' hz hz
    rw [eqV_refl] at this
    exact this
  clear BX
  have hs1 : (p.toList != p.toList) = false := by simp
  go_enter Tryz.func38, Tryz.ntmps38
  go_wp2_with fail
  refine (C.out _ (h.ext eb) (h'.ext eb)).mono ?_; rintro _ w1 ⟨rfl, he1⟩
  go_wp2
  go_ret
  exact ⟨rfl, eb.trans he1⟩
set_option maxRecDepth 100000 in
set_option maxHeartbeats 4000000 in
theorem eqChangeS_same (A A' : Option Addr) (cs : List (ByteArray × DVal)) (c c' : Nat) (w : World) (h : RdC w A cs c) (h' : RdC w A' cs c') (hz : szCh cs ≤ 140737488351232) :
    Gives Tryz.prog 11 #[.slice A cs.length c, .slice A' cs.length c'] w (.bool true) := by
  have hl := h.len
  have H1 := Lib.hid h; have H2 := Lib.hid h'; have HZ := Lib.hid hz
  have hb1 : ((cs.length : Int) != (cs.length : Int)) = false := by simp
  clear h h' hz
  go_enter Tryz.func11, Tryz.ntmps11
  go_wp2
  go_loopw [5] (fun i wr => ∃ k : Nat, k ≤ cs.length ∧ i = .int .i64 k ∧ Ext w wr) (fun i _ => cs.length - (intOf i).toNat)
  case atStart => exact ⟨0, by omega, rfl, Ext.refl _⟩
  case round =>
    obtain ⟨k, hk, rfl, he⟩ := hrel
    by_cases hlt : k < cs.length
    · obtain ⟨b, off, A1, c1, B1, d1, rfl, hb, hS, hc⟩ := H1.out.get k hlt
      obtain ⟨b', off', A1', c1', B1', d1', rfl, hb', hS', hc'⟩ := H2.out.get k hlt
      have s1 := szCh_mem (List.getElem_mem hlt)
      have CE := Lib.hid (fun w h h' => eqChange_same (cs[k]'hlt).1 (cs[k]'hlt).2 A1 c1 B1 d1 A1' c1' B1' d1' w h h' (by have := HZ.out; omega))
      have k0 := fun w' e => hc w' e 0 (by omega); have k1 := fun w' e => hc w' e 1 (by omega); have k2 := fun w' e => hc w' e 2 (by omega); have k3 := fun w' e => hc w' e 3 (by omega)
      have j0 := fun w' e => hc' w' e 0 (by omega); have j1 := fun w' e => hc' w' e 1 (by omega); have j2 := fun w' e => hc' w' e 2 (by omega); have j3 := fun w' e => hc' w' e 3 (by omega)
      simp only [List.getElem?_cons_succ, List.getElem?_cons_zero, Nat.add_zero] at k0 k1 k2 k3 j0 j1 j2 j3
      generalize cs[k] = r at *
      obtain ⟨p, v⟩ := r
      have H3 := Lib.hid (fun w' (e : Ext w w') => hS.ext e); have H4 := Lib.hid (fun w' (e : Ext w w') => hS'.ext e)
      clear s1 hS hS' hc hc'
      dsimp only at *
      go_wp2_with fail
      refine wp_region_quiet_below (by kernel_rfl) (by kernel_rfl) ?_
      repeat (go_big_quiet_step ((go_at_call 38; exact Calls.regrown_of (CE.out _ (H3.out _ (by first | assumption | exact Ext_regrown _ _ he)) (H4.out _ (by first | assumption | exact Ext_regrown _ _ he))))))
      refine wpQuiet_nil ?_
      rintro w1 ⟨⟨nq, osq⟩, hq⟩
      have ew1 := ext_of_q hq
      clear hq nq osq
      have he1 := he.trans ew1
      go_wp2
      go_roundw
      case rel => exact ⟨k+1, by omega, by go_num, he1⟩
      case measure => simp [intOf]; omega
    · go_wp2
      go_ret
      exact ⟨rfl, he⟩
end Go.Proofs.YtjckcbfpejcpcaaGreatDoor
