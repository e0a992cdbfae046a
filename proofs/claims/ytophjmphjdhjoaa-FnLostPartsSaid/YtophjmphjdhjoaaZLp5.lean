/- Draws of descriptions: l29Wider (a description with more tags). (Printed by gen/gx28.py.) -/
import Derived.Test.YtophjmphjdhjoaaZLp4
import Derived.IntWalk
import Derived.Deep.DeepCutAuto
import Derived.Deep.CutBlock
set_option linter.unusedVariables false
set_option linter.unusedSimpArgs false
namespace Go.Proofs.Ytophjmphjdhjoaa
open Go.RowKit Go.Sort

/-- y is x, or x with one more tag and one more kid -/
def WideR (x y : DRule) (j : Nat) : Prop := y = x ∨ (x.kind = 7 ∧ x.tags.length < 8 ∧ ∃ (z k : Nat), z < 3 ∧ below j k ∧ y = { x with tags := x.tags ++ [x.tags.getD (x.tags.length - 1) 0 + 1 + (z : Int)], kids := x.kids ++ [(k : Int)] })
/-- the rules below i are wider, the others as they were -/
structure WI (ds : List DRule) (ps : List RV) (i : Nat) : Prop where
  len : ps.length = ds.length
  wid : ∀ j (h : j < ps.length) (h' : j < ds.length), j < i → WideR ds[j] ps[j].r j
  old : ∀ j (h : j < ps.length) (h' : j < ds.length), i ≤ j → ps[j].r = ds[j]
theorem WI.zero {ds : List DRule} {ps : List RV} (h : rulesOf ps = ds) : WI ds ps 0 := by
  subst h
  exact ⟨by simp [rulesOf], fun j _ _ hj => by omega, fun j h h' _ => by simp [rulesOf]⟩
theorem WI.skip {ds : List DRule} {ps : List RV} {i : Nat} (h : WI ds ps i) : WI ds ps (i + 1) :=
  ⟨h.len, fun j h1 h2 hj => by
    rcases (by omega : j < i ∨ j = i) with h3 | rfl
    · exact h.wid j h1 h2 h3
    · exact .inl (h.old j h1 h2 (Nat.le_refl _)), fun j h1 h2 hj => h.old j h1 h2 (by omega)⟩
theorem WI.put {ds : List DRule} {ps : List RV} {i : Nat} (h : WI ds ps i) (hi : i < ps.length) (hi' : i < ds.length) {p' : RV} (hp : WideR ds[i] p'.r i) : WI ds (ps.set i p') (i + 1) :=
  ⟨by rw [List.length_set]; exact h.len, fun j h1 h2 hj => by
    rw [List.length_set] at h1
    rw [List.getElem_set]
    split
    · rename_i e; subst e; exact hp
    · exact h.wid j h1 h2 (by omega), fun j h1 h2 hj => by
    rw [List.length_set] at h1
    rw [List.getElem_set, if_neg (by omega)]
    exact h.old j h1 h2 (by omega)⟩
theorem WideR.sm {x y : DRule} {j : Nat} (h : WideR x y j) (hs : SmallR x) (hk : -100 ≤ x.kind ∧ x.kind ≤ 100) (hj : j ≤ 24) : SmR y := by
  rcases h with rfl | ⟨_, _, z, k, hz, hkb, rfl⟩
  · exact hs.sm hk
  · have hl : -100000 ≤ x.tags.getD (x.tags.length - 1) 0 ∧ x.tags.getD (x.tags.length - 1) 0 ≤ 100000 := by
      rw [List.getD_eq_getElem?_getD]
      cases he : x.tags[x.tags.length - 1]? with
      | none => simp
      | some u => exact hs.ints.2.1 u (List.mem_of_getElem? he)
    have hk2 : (k : Int) ≤ 24 := by unfold below at hkb; split at hkb <;> omega
    refine ⟨by have := hs.nm; dsimp only; omega, by have := hs.lens; simp only [List.length_append, List.length_singleton]; omega, fun t ht => by have := hs.nms t ht; omega, hk, ⟨hs.ints.1, fun u hu => ?_, fun u hu => ?_⟩⟩
    · rcases List.mem_append.1 hu with h1 | h1
      · have := hs.ints.2.1 u h1; omega
      · rw [List.mem_singleton.1 h1]; omega
    · rcases List.mem_append.1 hu with h1 | h1
      · have := hs.ints.2.2 u h1; omega
      · rw [List.mem_singleton.1 h1]; omega
set_option maxRecDepth 100000 in
set_option maxHeartbeats 16000000 in
theorem l29Wider_c (Aa : Option Addr) (ds : List DRule) (ca : Nat) (hSm : SmallD ds) (hT : ∀ i (h : i < ds.length), ds[i].kind = 7 → 0 < ds[i].tags.length) (wb w : World) (p : Nat) (A : Option Addr) (l : List UInt8) (c : Nat) (hA : Bs wb A l c) (hC : Cur wb w p A l c) (hD : RdD w Aa ds ca) :
    Calls Try.prog 57 #[.pointer (some ⟨p, 0, none⟩), vdesc (.slice Aa ds.length ca)] w fun e w' => ∃ v ps, e = .returned (vdesc v) ∧ WI ds ps ds.length ∧ OwnD wb w' v ps ∧ (∀ u ∈ v :: ps.flatMap RV.vals, ∀ b, u.ownBlock = some b → w.heap.size ≤ b) ∧ Cur wb w' p A l c ∧ w.grownBy w' (some p) := by
  have hplt := hC.lt
  have hbw := hC.2.1.size
  have hDn := hSm.1
  have CBe := Lib.hid (fun n w h hn => l1Below_c n wb w p A l c hA h hn)
  have COn := Lib.hid (fun n w h hn => l1Once_c n wb w p A l c hA h hn)
  have hsz : szD ds ≤ 1048576 := SmallD.szD hSm
  have CC := Lib.hid (fun w h => sCopyD_c Aa ds ca w h hsz)
  have HSm := Lib.hid hSm; have HT := Lib.hid hT; have HD := Lib.hid hD
  clear hSm hT hsz
  obtain ⟨W0, hW0, HP, HR, e0, hsA⟩ := boxes2' w #[.slice Aa ds.length ca] #[.slice none 0 0] 26 26
  have HP0 := Lib.hid HP; have HR0 := Lib.hid HR
  have zp : _ = some (Value.slice Aa ds.length ca) := HP.cell 0
  have hsA := Lib.hid hsA
  clear HP HR
  unfold vdesc at *
  go_enter Try.func57, Try.ntmps57
  go_wp2_with fail
  rw [← hW0.out]
  refine (CC.out _ (HD.out.ext e0)).mono ?_; rintro _ w2 ⟨v, ps, rfl, hps, hO, e2⟩
  have hR2 := HR0.out.ext e2
  have hRl := hR2.lt
  have x2 := Ext_alloc (.cells #[v] 26) (Ext.refl w2)
  have S2 : Hid (DS wb w (w2.alloc (.cells #[v] 26)) p A l c w2.heap.size v ps (w.heap.size + 1)) :=
    ⟨Box.new w2 _ _, (hO.ext x2).down (by have := hsA.out; omega), fun u hu b hb => by
      have h1 := hO.block u hu b hb
      have := hsA.out
      exact ⟨by omega, by omega, by omega, by omega⟩, ((hC.ext e0).ext e2).ext x2, grown_ext ((e0.trans e2).trans x2) _, by omega, by omega, by omega, hR2.ext x2, by omega, by omega⟩
  have hWI := Lib.hid (WI.zero hps)
  obtain ⟨Av, cv, hv⟩ := hO.shape
  subst hv
  clear hO hps e2 x2 hR2 CC HP0 HR0 hC zp e0
  go_wp2
  go_loopw [6] (fun t wr => ∃ (i : Nat) (v : Value) (ps : List RV), i ≤ ds.length ∧ t = .int .i64 i ∧ Hid (WI ds ps i) ∧ Hid (DS wb w wr p A l c w2.heap.size v ps (w.heap.size + 1))) (fun t _ => ds.length - (intOf t).toNat)
  case atStart => exact ⟨0, _, ps, by omega, rfl, hWI, S2⟩
  case round =>
    clear hWI S2
    obtain ⟨i, v, ps, hi, rfl, hWI, S3⟩ := hrel
    have hpl := hWI.out.len
    obtain ⟨Av, cap, hv⟩ := S3.out.own.shape
    subst hv
    have cd0 : _ = some (Value.slice Av ps.length cap) := S3.out.box.cell 0
    by_cases hlt : i < ds.length
    · have hk : i < ps.length := by omega
      obtain ⟨b, hAv⟩ : ∃ b, Av = some ⟨b, 0, none⟩ := by
        rcases S3.out.own.row.2 with ⟨_, h0⟩ | ⟨b, cap', cur, hv, _⟩
        · omega
        · injection hv with q1 _ _; exact ⟨b, q1⟩
      subst hAv
      obtain ⟨q, hq⟩ : ∃ q, ps[i] = q := ⟨_, rfl⟩
      have hqr : q.r = ds[i] := by rw [← hq]; exact hWI.out.old i hk hlt (Nat.le_refl _)
      have hsr : SmallR q.r := hqr ▸ HSm.out.2 _ (List.getElem_mem hlt)
      have HRO := S3.out.rule i hk hq
      obtain ⟨r, vb, vn, vt, vk⟩ := q
      obtain ⟨Ab, cb, An, cn, At, ct, Ak, ck, hs1, hs2, hs3, hs4, hRS⟩ := HRO.rd hsr.short
      dsimp only at hs1 hs2 hs3 hs4 hsr hqr
      subst hs1; subst hs2; subst hs3; subst hs4
      have HQ := Lib.hid hq; have HSR := Lib.hid hsr; have HQR := Lib.hid hqr
      have l0 : wr.cell? ⟨b, i * 8, none⟩ = some (.string r.nm) := S3.out.cellr i 0 hk (by omega) hq
      have l1 : wr.cell? ⟨b, i * 8 + 1, none⟩ = some (.int .i64 r.kind) := S3.out.cellr i 1 hk (by omega) hq
      have l2 : wr.cell? ⟨b, i * 8 + 2, none⟩ = some (.int .i64 r.size) := S3.out.cellr i 2 hk (by omega) hq
      have l3 : wr.cell? ⟨b, i * 8 + 3, none⟩ = some (.bool r.little) := S3.out.cellr i 3 hk (by omega) hq
      have l4 : wr.cell? ⟨b, i * 8 + 4, none⟩ = some (Value.slice Ab r.bytes.length cb) := S3.out.cellr i 4 hk (by omega) hq
      have l5 : wr.cell? ⟨b, i * 8 + 5, none⟩ = some (Value.slice An r.names.length cn) := S3.out.cellr i 5 hk (by omega) hq
      have l6 : wr.cell? ⟨b, i * 8 + 6, none⟩ = some (Value.slice At r.tags.length ct) := S3.out.cellr i 6 hk (by omega) hq
      have l7 : wr.cell? ⟨b, i * 8 + 7, none⟩ = some (Value.slice Ak r.kids.length ck) := S3.out.cellr i 7 hk (by omega) hq
      have b1 : (i : Int) < (ps.length : Int) := by omega
      have b0 : (0 : Int) ≤ (i : Int) := by omega
      have HTr : Hid (r.kind = 7 → 0 < r.tags.length) := fun h7 => by rw [hqr] at h7 ⊢; exact HT.out i hlt h7
      have xr := Ext_alloc (.cells #[.string r.nm, .int .i64 r.kind, .int .i64 r.size, .bool r.little, .slice Ab r.bytes.length cb, .slice An r.names.length cn, .slice At r.tags.length ct, .slice Ak r.kids.length ck] 35) (Ext.refl wr)
      have HRb := Lib.hid (Box.new wr #[.string r.nm, .int .i64 r.kind, .int .i64 r.size, .bool r.little, .slice Ab r.bytes.length cb, .slice An r.names.length cn, .slice At r.tags.length ct, .slice Ak r.kids.length ck] 35)
      have S4 := Lib.hid (S3.out.ext xr)
      have HRT := Lib.hid (hRS.t.ext xr)
      have HWS := Lib.hid hWI.out.skip
      obtain ⟨W4, hW4⟩ : ∃ W4, W4 = wr.alloc (.cells #[.string r.nm, .int .i64 r.kind, .int .i64 r.size, .bool r.little, .slice Ab r.bytes.length cb, .slice An r.names.length cn, .slice At r.tags.length ct, .slice Ak r.kids.length ck] 35) := ⟨_, rfl⟩
      rw [← hW4] at HRb S4 HRT
      have HW4 := Lib.hid hW4
      clear hq hqr hsr hRS HRO xr hW4
      have hlw := hpl
      by_cases h7 : r.kind = 7
      · have hb7 : (r.kind != 7) = false := by simp [h7]
        have H7 := Lib.hid h7
        clear h7
        by_cases h8 : 8 ≤ r.tags.length
        · have d8 : decide ((8 : Int) ≤ (r.tags.length : Int)) = true := decide_eq_true (by omega)
          have d8' : decide (8 ≤ r.tags.length) = true := decide_eq_true h8
          rw [HW4.out] at S4
          clear HW4 HRb HRT S3 hWI hpl
          go_wp2
          go_roundw
          case rel => exact ⟨i + 1, _, ps, by omega, by go_num, HWS, S4⟩
          case measure => simp [intOf]; omega
        · have d8 : decide ((8 : Int) ≤ (r.tags.length : Int)) = false := decide_eq_false (by omega)
          have d8' : decide (8 ≤ r.tags.length) = false := decide_eq_false h8
          go_wp2_with fail
          rw [← HW4.out]
          refine (COn.out 4 _ S4.out.cur (by omega)).mono ?_; rintro _ w5 ⟨z, rfl, hC5, hg5⟩
          have S5 := Lib.hid (S4.out.moved hC5 hg5)
          have hrp : (some p : Option Nat) ≠ some wr.heap.size := some_ne (by have := S3.out.cur.lt; omega)
          have HB5 := Lib.hid (HRb.out.moved hg5 hrp)
          clear hC5 hg5 HRb S4 HW4 HRT l0 l1 l2 l3 l4 l5 l6 l7 cd0
          cases z
          · obtain ⟨At5, ct5, hv5, hR5⟩ := OwnL.rd (S5.out.rule i hk HQ.out).t (by have := HSR.out.lens; show r.tags.length ≤ _; omega)
            dsimp only at hv5 hR5
            injection hv5 with q1 _ q2
            subst q1; subst q2
            obtain ⟨m, hm⟩ : ∃ m, r.tags.length = m + 1 := ⟨r.tags.length - 1, by have := HTr.out H7.out; omega⟩
            obtain ⟨bt, ot, rfl, _, hcl⟩ := hR5.1.at m (by omega)
            obtain ⟨z0, hz0⟩ : ∃ z0, r.tags[m]'(by omega) = z0 := ⟨_, rfl⟩
            have hcl0 : ∀ w', Ext w5 w' → w'.cell? ⟨bt, ot + m, none⟩ = some (.int .i64 z0) := fun w' e => by rw [hcl w' e, hz0]; rfl
            have HZL : Hid (z0 = r.tags.getD (r.tags.length - 1) 0) := by
              show _ = _
              have e : r.tags.length - 1 = m := by omega
              rw [e, ← hz0, List.getD_eq_getElem?_getD, List.getElem?_eq_getElem (by omega)]; rfl
            have hzb : -100000 ≤ z0 ∧ z0 ≤ 100000 := by rw [← hz0]; exact HSR.out.ints.2.1 _ (List.getElem_mem _)
            have hm1 : (r.tags.length : Int) - 1 = (m : Int) := by omega
            have hwm : IntKind.i64.wrap (m : Int) = (m : Int) := IntWalk.i64_in _ (by have := HSR.out.lens; omega)
            have hwz : IntKind.i64.wrap (z0 + 1) = z0 + 1 := IntWalk.i64_in _ (by omega)
            have hwy : Hid (∀ y : Nat, y < 3 → IntKind.i64.wrap (z0 + 1 + (y : Int)) = z0 + 1 + (y : Int)) := fun y hy => IntWalk.i64_in _ (by omega)
            have m0 : (0 : Int) ≤ (m : Int) := by omega
            have m2 : (m : Int) < (r.tags.length : Int) := by omega
            have m3 : m < r.tags.length := by omega
            have HMM := Lib.hid hm
            have HCT : Hid (∀ w', DS wb w w' p A l c w2.heap.size (.slice (some ⟨b, 0, none⟩) ps.length cap) ps (w.heap.size + 1) → w'.cell? ⟨bt, ot + m, none⟩ = some (.int .i64 z0)) := fun w' h => by
              obtain ⟨A', c', hv, hR⟩ := OwnL.rd (h.rule i hk HQ.out).t (by have := HSR.out.lens; show r.tags.length ≤ _; omega)
              dsimp only at hv hR
              injection hv with q1 _ q2
              subst q1; subst q2
              obtain ⟨bt', ot', hab, _, hcl'⟩ := hR.at m (by omega)
              injection hab with hab
              injection hab with e1 e2 _
              subst e1; subst e2
              rw [hcl' w' (Ext.refl _), hz0]; rfl
            have SX := Lib.hid (S5.out.ext (Ext_drew (Ext.refl w5)))
            have hcd := Lib.hid hcl0
            clear hm hcl hR5 hz0 hcl0
            go_wp2_with fail
            have HAB : lv2 (fun w' => w'.cell? ⟨wr.heap.size, 6, none⟩ = some (Value.slice (some ⟨bt, ot, none⟩) r.tags.length ct)) (fun w' => w'.cell? ⟨bt, ot + m, none⟩ = some (.int .i64 z0)) 2 w5.drew := ⟨(HB5.out.ext (Ext_drew (Ext.refl w5))).cell 6, hcd.out _ (Ext_drew (Ext.refl w5))⟩
            refine wp_region_C (C := fun j => lv2 (fun w' => w'.cell? ⟨wr.heap.size, 6, none⟩ = some (Value.slice (some ⟨bt, ot, none⟩) r.tags.length ct)) (fun w' => w'.cell? ⟨bt, ot + m, none⟩ = some (.int .i64 z0)) (([0, 1, 0, 1, 0, 0, 0, 2, 0, 0, 2, 0, 0] : List Nat).getD j 0)) (by kernel_rfl) ?_
            refine wpAnyC_take 0 (i := 0) (v := ?_) (lv2_mono _ _) rfl (by kernel_rfl) (by kernel_rfl) (by kernel_rfl) (by kernel_rfl) (by kernel_rfl) (fun _ _ _ h => h) trivial (Or.inl ⟨by rfl, ?_⟩) ?_
            rotate_left
            · (intro w hSw; clear hSw; go_simp; try with_reducible rfl)
            try simp only [Act.put, List.setIfInBounds_toArray, List.set_cons_zero, List.set_cons_succ]
            refine wpAnyC_take 0 (i := 2) (v := ?_) (lv2_mono _ _) rfl (by kernel_rfl) (by kernel_rfl) (by kernel_rfl) (by kernel_rfl) (by kernel_rfl) (fun _ _ _ h => h) trivial (Or.inl ⟨by rfl, ?_⟩) ?_
            rotate_left
            · (intro w hSw; clear hSw; go_simp; try with_reducible rfl)
            try simp only [Act.put, List.setIfInBounds_toArray, List.set_cons_zero, List.set_cons_succ]
            refine wpAnyC_take 0 (i := 9) (v := ?_) (lv2_mono _ _) rfl (by kernel_rfl) (by kernel_rfl) (by kernel_rfl) (by kernel_rfl) (by kernel_rfl) (fun _ _ _ h => h) trivial (Or.inl ⟨by rfl, ?_⟩) ?_
            rotate_left
            · (intro w hSw; clear hSw; go_simp; try with_reducible rfl)
            try simp only [Act.put, List.setIfInBounds_toArray, List.set_cons_zero, List.set_cons_succ]
            refine wpAnyC_take 1 (i := 3) (v := ?_) (lv2_mono _ _) rfl (by kernel_rfl) (by kernel_rfl) (by kernel_rfl) (by kernel_rfl) (by kernel_rfl) (fun _ _ _ h => h) (And.left HAB) (Or.inl ⟨by rfl, ?_⟩) ?_
            rotate_left
            · (intro w hSw; have hfact : w.cell? ⟨wr.heap.size, 6, none⟩ = some (Value.slice (some ⟨bt, ot, none⟩) r.tags.length ct) := hSw; clear hSw; go_simp; try with_reducible rfl)
            try simp only [Act.put, List.setIfInBounds_toArray, List.set_cons_zero, List.set_cons_succ]
            refine wpAnyC_take 0 (i := 4) (v := ?_) (lv2_mono _ _) rfl (by kernel_rfl) (by kernel_rfl) (by kernel_rfl) (by kernel_rfl) (by kernel_rfl) (fun _ _ _ h => h) trivial (Or.inl ⟨by rfl, ?_⟩) ?_
            rotate_left
            · (intro w hSw; clear hSw; go_simp; try with_reducible rfl)
            try simp only [Act.put, List.setIfInBounds_toArray, List.set_cons_zero, List.set_cons_succ]
            refine wpAnyC_take 0 (i := 5) (v := ?_) (lv2_mono _ _) rfl (by kernel_rfl) (by kernel_rfl) (by kernel_rfl) (by kernel_rfl) (by kernel_rfl) (fun _ _ _ h => h) trivial (Or.inl ⟨by rfl, ?_⟩) ?_
            rotate_left
            · (intro w hSw; clear hSw; go_simp; try with_reducible rfl)
            try simp only [Act.put, List.setIfInBounds_toArray, List.set_cons_zero, List.set_cons_succ]
            refine wpAnyC_take 1 (i := 1) (v := ?_) (lv2_mono _ _) rfl (by kernel_rfl) (by kernel_rfl) (by kernel_rfl) (by kernel_rfl) (by kernel_rfl) (fun _ _ _ h => h) (And.left HAB) (Or.inl ⟨by rfl, ?_⟩) ?_
            rotate_left
            · (intro w hSw; have hfact : w.cell? ⟨wr.heap.size, 6, none⟩ = some (Value.slice (some ⟨bt, ot, none⟩) r.tags.length ct) := hSw; clear hSw; go_simp; try with_reducible rfl)
            try simp only [Act.put, List.setIfInBounds_toArray, List.set_cons_zero, List.set_cons_succ]
            refine wpAnyC_take 0 (i := 6) (v := ?_) (lv2_mono _ _) rfl (by kernel_rfl) (by kernel_rfl) (by kernel_rfl) (by kernel_rfl) (by kernel_rfl) (fun _ _ _ h => h) trivial (Or.inl ⟨by rfl, ?_⟩) ?_
            rotate_left
            · (intro w hSw; clear hSw; go_simp; try with_reducible rfl)
            try simp only [Act.put, List.setIfInBounds_toArray, List.set_cons_zero, List.set_cons_succ]
            refine wpAnyC_take 2 (i := 7) (v := ?_) (lv2_mono _ _) rfl (by kernel_rfl) (by kernel_rfl) (by kernel_rfl) (by kernel_rfl) (by kernel_rfl) (fun _ _ _ h => h) HAB (Or.inl ⟨by rfl, ?_⟩) ?_
            rotate_left
            · (intro w hSw; have hfact : w.cell? ⟨bt, ot + m, none⟩ = some (.int .i64 z0) := hSw.2; clear hSw; go_simp; try with_reducible rfl)
            try simp only [Act.put, List.setIfInBounds_toArray, List.set_cons_zero, List.set_cons_succ]
            refine wpAnyC_take 0 (i := 8) (v := ?_) (lv2_mono _ _) rfl (by kernel_rfl) (by kernel_rfl) (by kernel_rfl) (by kernel_rfl) (by kernel_rfl) (fun _ _ _ h => h) trivial (Or.inl ⟨by rfl, ?_⟩) ?_
            rotate_left
            · (intro w hSw; clear hSw; go_simp; try with_reducible rfl)
            try simp only [Act.put, List.setIfInBounds_toArray, List.set_cons_zero, List.set_cons_succ]
            refine wpAnyC_one (i := 10) (by kernel_rfl) rfl (fun K hK => ?_)
            go_simp
            go_at_call 20
            refine (CBe.out 3 _ SX.out.cur (by omega)).mono ?_
            rintro _ w6 ⟨y, hy, rfl, hC6, hg6⟩
            have hy3 : y < 3 := by unfold below at hy; rw [if_neg (by omega)] at hy; omega
            have hw6 := hwy.out y hy3
            have S6 := Lib.hid (DS.moved SX.out hC6 hg6)
            have L6 : lv2 (fun w' => w'.cell? ⟨wr.heap.size, 6, none⟩ = some (Value.slice (some ⟨bt, ot, none⟩) r.tags.length ct)) (fun w' => w'.cell? ⟨bt, ot + m, none⟩ = some (.int .i64 z0)) 2 w6 := ⟨((HB5.out.ext (Ext_drew (Ext.refl w5))).moved hg6 hrp).cell 6, HCT.out _ S6.out⟩
            clear hy hC6 hg6
            refine Shut.out hK _ _ L6 ?_
            try simp only [Act.put, List.setIfInBounds_toArray, List.set_cons_zero, List.set_cons_succ]
            refine wpAnyC_one (i := 11) (by kernel_rfl) rfl (fun K hK => ?_)
            go_simp
            refine Shut.out hK _ _ trivial ?_
            try simp only [Act.put, List.setIfInBounds_toArray, List.set_cons_zero, List.set_cons_succ]
            refine wpAnyC_one (i := 12) (by kernel_rfl) rfl (fun K hK => ?_)
            go_simp
            refine Shut.out hK _ _ trivial ?_
            try simp only [Act.put, List.setIfInBounds_toArray, List.set_cons_zero, List.set_cons_succ]
            refine wpAnyC_done (by kernel_rfl) ?_ _
            have S6' := S6
            clear HAB SX hcd hm1 hwm hwz hwy m0 m2 m3 HB5 S5 hw6 HCT L6
            have SX := Lib.hid (S6.out.ext (Ext_drew (Ext.refl w6)))
            have HB : Hid (∀ z : Int, (r.tags.length + [z].length) * 8 ≤ 140737488355328) := fun z => by have := HSR.out.lens; simp; omega
            have HL : Hid (∀ z : Int, (r.tags ++ [z]).length ≤ 140737488351232) := fun z => by have := HSR.out.lens; simp; omega
            go_wp2_with fail
            have HAB : lv2 (fun w' => w'.cell? ⟨w2.heap.size, 0, none⟩ = some (Value.slice (some ⟨b, 0, none⟩) ps.length cap)) (fun w' => w'.cell? ⟨b, i * 8 + 6, none⟩ = some (Value.slice (some ⟨bt, ot, none⟩) r.tags.length ct)) 2 w6.drew := ⟨SX.out.box.cell 0, SX.out.cellr i 6 hk (by omega) HQ.out⟩
            refine wp_region_C (C := fun j => lv2 (fun w' => w'.cell? ⟨w2.heap.size, 0, none⟩ = some (Value.slice (some ⟨b, 0, none⟩) ps.length cap)) (fun w' => w'.cell? ⟨b, i * 8 + 6, none⟩ = some (Value.slice (some ⟨bt, ot, none⟩) r.tags.length ct)) (([0, 1, 0, 0, 1, 0, 0, 0, 2, 0, 2, 1, 0, 0, 0] : List Nat).getD j 0)) (by kernel_rfl) ?_
            refine wpAnyC_take 0 (i := 0) (v := ?_) (lv2_mono _ _) rfl (by kernel_rfl) (by kernel_rfl) (by kernel_rfl) (by kernel_rfl) (by kernel_rfl) (fun _ _ _ h => h) trivial (Or.inl ⟨by rfl, ?_⟩) ?_
            rotate_left
            · (intro w hSw; clear hSw; go_simp; try with_reducible rfl)
            try simp only [Act.put, List.setIfInBounds_toArray, List.set_cons_zero, List.set_cons_succ]
            refine wpAnyC_take 0 (i := 2) (v := ?_) (lv2_mono _ _) rfl (by kernel_rfl) (by kernel_rfl) (by kernel_rfl) (by kernel_rfl) (by kernel_rfl) (fun _ _ _ h => h) trivial (Or.inl ⟨by rfl, ?_⟩) ?_
            rotate_left
            · (intro w hSw; clear hSw; go_simp; try with_reducible rfl)
            try simp only [Act.put, List.setIfInBounds_toArray, List.set_cons_zero, List.set_cons_succ]
            refine wpAnyC_take 0 (i := 3) (v := ?_) (lv2_mono _ _) rfl (by kernel_rfl) (by kernel_rfl) (by kernel_rfl) (by kernel_rfl) (by kernel_rfl) (fun _ _ _ h => h) trivial (Or.inl ⟨by rfl, ?_⟩) ?_
            rotate_left
            · (intro w hSw; clear hSw; go_simp; try with_reducible rfl)
            try simp only [Act.put, List.setIfInBounds_toArray, List.set_cons_zero, List.set_cons_succ]
            refine wpAnyC_take 0 (i := 5) (v := ?_) (lv2_mono _ _) rfl (by kernel_rfl) (by kernel_rfl) (by kernel_rfl) (by kernel_rfl) (by kernel_rfl) (fun _ _ _ h => h) trivial (Or.inl ⟨by rfl, ?_⟩) ?_
            rotate_left
            · (intro w hSw; clear hSw; go_simp; try with_reducible rfl)
            try simp only [Act.put, List.setIfInBounds_toArray, List.set_cons_zero, List.set_cons_succ]
            refine wpAnyC_take 0 (i := 9) (v := ?_) (lv2_mono _ _) rfl (by kernel_rfl) (by kernel_rfl) (by kernel_rfl) (by kernel_rfl) (by kernel_rfl) (fun _ _ _ h => h) trivial (Or.inl ⟨by rfl, ?_⟩) ?_
            rotate_left
            · (intro w hSw; clear hSw; go_simp; try with_reducible rfl)
            try simp only [Act.put, List.setIfInBounds_toArray, List.set_cons_zero, List.set_cons_succ]
            refine wpAnyC_take 1 (i := 4) (v := ?_) (lv2_mono _ _) rfl (by kernel_rfl) (by kernel_rfl) (by kernel_rfl) (by kernel_rfl) (by kernel_rfl) (fun _ _ _ h => h) (And.left HAB) (Or.inl ⟨by rfl, ?_⟩) ?_
            rotate_left
            · (intro w hSw; have hfact : w.cell? ⟨w2.heap.size, 0, none⟩ = some (Value.slice (some ⟨b, 0, none⟩) ps.length cap) := hSw; clear hSw; go_simp; try with_reducible rfl)
            try simp only [Act.put, List.setIfInBounds_toArray, List.set_cons_zero, List.set_cons_succ]
            refine wpAnyC_take 0 (i := 6) (v := ?_) (lv2_mono _ _) rfl (by kernel_rfl) (by kernel_rfl) (by kernel_rfl) (by kernel_rfl) (by kernel_rfl) (fun _ _ _ h => h) trivial (Or.inl ⟨by rfl, ?_⟩) ?_
            rotate_left
            · (intro w hSw; clear hSw; go_simp; try with_reducible rfl)
            try simp only [Act.put, List.setIfInBounds_toArray, List.set_cons_zero, List.set_cons_succ]
            refine wpAnyC_take 0 (i := 7) (v := ?_) (lv2_mono _ _) rfl (by kernel_rfl) (by kernel_rfl) (by kernel_rfl) (by kernel_rfl) (by kernel_rfl) (fun _ _ _ h => h) trivial (Or.inl ⟨by rfl, ?_⟩) ?_
            rotate_left
            · (intro w hSw; clear hSw; go_simp; try with_reducible rfl)
            try simp only [Act.put, List.setIfInBounds_toArray, List.set_cons_zero, List.set_cons_succ]
            refine wpAnyC_take 1 (i := 1) (v := ?_) (lv2_mono _ _) rfl (by kernel_rfl) (by kernel_rfl) (by kernel_rfl) (by kernel_rfl) (by kernel_rfl) (fun _ _ _ h => h) (And.left HAB) (Or.inl ⟨by rfl, ?_⟩) ?_
            rotate_left
            · (intro w hSw; have hfact : w.cell? ⟨w2.heap.size, 0, none⟩ = some (Value.slice (some ⟨b, 0, none⟩) ps.length cap) := hSw; clear hSw; go_simp; try with_reducible rfl)
            try simp only [Act.put, List.setIfInBounds_toArray, List.set_cons_zero, List.set_cons_succ]
            refine wpAnyC_take 2 (i := 8) (v := ?_) (lv2_mono _ _) rfl (by kernel_rfl) (by kernel_rfl) (by kernel_rfl) (by kernel_rfl) (by kernel_rfl) (fun _ _ _ h => h) HAB (Or.inl ⟨by rfl, ?_⟩) ?_
            rotate_left
            · (intro w hSw; have hfact : w.cell? ⟨b, i * 8 + 6, none⟩ = some (Value.slice (some ⟨bt, ot, none⟩) r.tags.length ct) := hSw.2; clear hSw; go_simp; try with_reducible rfl)
            try simp only [Act.put, List.setIfInBounds_toArray, List.set_cons_zero, List.set_cons_succ]
            refine wpAnyC_one (i := 10) (by kernel_rfl) rfl (fun K hK => ?_)
            go_simp
            have S5' := Lib.hid (SX.out.ext (Ext_alloc (.cells #[.int .i64 (z0 + 1 + (y : Int))] 3) (Ext.refl _)))
            refine Shut.out hK _ _ ⟨S5'.out.box.cell 0, S5'.out.cellr i 6 hk (by omega) HQ.out⟩ ?_
            try simp only [Act.put, List.setIfInBounds_toArray, List.set_cons_zero, List.set_cons_succ]
            refine wpAnyC_one (i := 11) (by kernel_rfl) rfl (fun K hK => ?_)
            refine step_appG rfl (.tmp 56) (.tmp 58) _ rfl E_int (by omega) wb _ vint (fun _ => rfl) (Value.slice (some ⟨bt, ot, none⟩) r.tags.length ct) rfl (some ⟨w6.heap.size, 0, none⟩) 1 1 (by first | rfl | (simp [Act.eval, Act.put]; done)) r.tags [z0 + 1 + (y : Int)] (S5'.out.rule i hk HQ.out).t S5'.out.cur.2.1 rfl (fun _ => ⟨_, rfl, fun j u hu => (World.cell?_alloc_at' w6.drew [.int .i64 (z0 + 1 + (y : Int))] 3 j).trans (hu)⟩) (HB.out _) ?_
            intro v7 w7 ho7 he7 hv7 hg7
            obtain ⟨A7, c7, hsh, _⟩ := OwnL.rd ho7 (HL.out _)
            replace hsh : v7 = .slice A7 (r.tags.length + 1) c7 := (by rw [hsh, List.length_append]; rfl)
            subst hsh
            obtain ⟨⟨z7, y7, g7⟩, M7⟩ := S5'.out.app_t' i hk HQ.out ho7 he7 hv7 hg7
            have z7 : w7.cell? ⟨b, i * 8 + 6, none⟩ = some (Value.slice (some ⟨bt, ot, none⟩) r.tags.length ct) := z7
            clear ho7 he7 hv7 hg7
            have M7 := Lib.hid M7
            refine Shut.out hK _ _ g7 ?_
            try simp only [Act.put, List.setIfInBounds_toArray, List.set_cons_zero, List.set_cons_succ]
            refine wpAnyC_one (i := 12) (by kernel_rfl) rfl (fun K hK => ?_)
            go_simp
            refine Shut.out hK _ _ trivial ?_
            try simp only [Act.put, List.setIfInBounds_toArray, List.set_cons_zero, List.set_cons_succ]
            refine wpAnyC_one (i := 13) (by kernel_rfl) rfl (fun K hK => ?_)
            go_simp
            refine Shut.out hK _ _ trivial ?_
            try simp only [Act.put, List.setIfInBounds_toArray, List.set_cons_zero, List.set_cons_succ]
            refine wpAnyC_one (i := 14) (by kernel_rfl) rfl (fun K hK => ?_)
            go_simp
            refine Shut.out hK _ _ trivial ?_
            try simp only [Act.put, List.setIfInBounds_toArray, List.set_cons_zero, List.set_cons_succ]
            refine wpAnyC_done (by kernel_rfl) ?_ _
            clear HAB SX S6 S6' HB HL z7 y7 g7 S5'
            obtain ⟨W8, hW8⟩ : ∃ W8, W8 = w7.setCell ⟨b, i * 8 + 6, none⟩ (.slice A7 (r.tags.length + 1) c7) := ⟨_, rfl⟩
            rw [← hW8] at M7 ⊢
            clear hW8
            have S8 := M7
            clear M7
            have HQ9 : Hid ((ps.set i (⟨{ r with tags := r.tags ++ [z0 + 1 + (y : Int)] }, .slice Ab r.bytes.length cb, .slice An r.names.length cn, .slice A7 (r.tags.length + 1) c7, .slice Ak r.kids.length ck⟩ : RV))[i]'(by simpa using hk) = (⟨{ r with tags := r.tags ++ [z0 + 1 + (y : Int)] }, .slice Ab r.bytes.length cb, .slice An r.names.length cn, .slice A7 (r.tags.length + 1) c7, .slice Ak r.kids.length ck⟩ : RV)) := by show _ = _; simp
            have hk9 : i < (ps.set i (⟨{ r with tags := r.tags ++ [z0 + 1 + (y : Int)] }, .slice Ab r.bytes.length cb, .slice An r.names.length cn, .slice A7 (r.tags.length + 1) c7, .slice Ak r.kids.length ck⟩ : RV)).length := by simpa using hk
            have SX9 := Lib.hid (S8.out.ext (Ext_drew (Ext.refl W8)))
            have HB : Hid (∀ z : Int, (r.kids.length + [z].length) * 8 ≤ 140737488355328) := fun z => by have := HSR.out.lens; simp; omega
            have HL : Hid (∀ z : Int, (r.kids ++ [z]).length ≤ 140737488351232) := fun z => by have := HSR.out.lens; simp; omega
            go_wp2_with fail
            have HAB : lv2 (fun w' => w'.cell? ⟨w2.heap.size, 0, none⟩ = some (Value.slice (some ⟨b, 0, none⟩) ps.length cap)) (fun w' => w'.cell? ⟨b, i * 8 + 7, none⟩ = some (Value.slice Ak r.kids.length ck)) 2 W8.drew := ⟨SX9.out.box.cell 0, SX9.out.cellr i 7 hk9 (by omega) HQ9.out⟩
            refine wp_region_C (C := fun j => lv2 (fun w' => w'.cell? ⟨w2.heap.size, 0, none⟩ = some (Value.slice (some ⟨b, 0, none⟩) ps.length cap)) (fun w' => w'.cell? ⟨b, i * 8 + 7, none⟩ = some (Value.slice Ak r.kids.length ck)) (([0, 1, 0, 0, 1, 0, 0, 0, 2, 0, 0, 2, 2, 1, 0, 0, 0] : List Nat).getD j 0)) (by kernel_rfl) ?_
            refine wpAnyC_take 0 (i := 0) (v := ?_) (lv2_mono _ _) rfl (by kernel_rfl) (by kernel_rfl) (by kernel_rfl) (by kernel_rfl) (by kernel_rfl) (fun _ _ _ h => h) trivial (Or.inl ⟨by rfl, ?_⟩) ?_
            rotate_left
            · (intro w hSw; clear hSw; go_simp; try with_reducible rfl)
            try simp only [Act.put, List.setIfInBounds_toArray, List.set_cons_zero, List.set_cons_succ]
            refine wpAnyC_take 0 (i := 2) (v := ?_) (lv2_mono _ _) rfl (by kernel_rfl) (by kernel_rfl) (by kernel_rfl) (by kernel_rfl) (by kernel_rfl) (fun _ _ _ h => h) trivial (Or.inl ⟨by rfl, ?_⟩) ?_
            rotate_left
            · (intro w hSw; clear hSw; go_simp; try with_reducible rfl)
            try simp only [Act.put, List.setIfInBounds_toArray, List.set_cons_zero, List.set_cons_succ]
            refine wpAnyC_take 0 (i := 3) (v := ?_) (lv2_mono _ _) rfl (by kernel_rfl) (by kernel_rfl) (by kernel_rfl) (by kernel_rfl) (by kernel_rfl) (fun _ _ _ h => h) trivial (Or.inl ⟨by rfl, ?_⟩) ?_
            rotate_left
            · (intro w hSw; clear hSw; go_simp; try with_reducible rfl)
            try simp only [Act.put, List.setIfInBounds_toArray, List.set_cons_zero, List.set_cons_succ]
            refine wpAnyC_take 0 (i := 5) (v := ?_) (lv2_mono _ _) rfl (by kernel_rfl) (by kernel_rfl) (by kernel_rfl) (by kernel_rfl) (by kernel_rfl) (fun _ _ _ h => h) trivial (Or.inl ⟨by rfl, ?_⟩) ?_
            rotate_left
            · (intro w hSw; clear hSw; go_simp; try with_reducible rfl)
            try simp only [Act.put, List.setIfInBounds_toArray, List.set_cons_zero, List.set_cons_succ]
            refine wpAnyC_take 0 (i := 9) (v := ?_) (lv2_mono _ _) rfl (by kernel_rfl) (by kernel_rfl) (by kernel_rfl) (by kernel_rfl) (by kernel_rfl) (fun _ _ _ h => h) trivial (Or.inl ⟨by rfl, ?_⟩) ?_
            rotate_left
            · (intro w hSw; clear hSw; go_simp; try with_reducible rfl)
            try simp only [Act.put, List.setIfInBounds_toArray, List.set_cons_zero, List.set_cons_succ]
            refine wpAnyC_take 0 (i := 10) (v := ?_) (lv2_mono _ _) rfl (by kernel_rfl) (by kernel_rfl) (by kernel_rfl) (by kernel_rfl) (by kernel_rfl) (fun _ _ _ h => h) trivial (Or.inl ⟨by rfl, ?_⟩) ?_
            rotate_left
            · (intro w hSw; clear hSw; go_simp; try with_reducible rfl)
            try simp only [Act.put, List.setIfInBounds_toArray, List.set_cons_zero, List.set_cons_succ]
            refine wpAnyC_take 1 (i := 4) (v := ?_) (lv2_mono _ _) rfl (by kernel_rfl) (by kernel_rfl) (by kernel_rfl) (by kernel_rfl) (by kernel_rfl) (fun _ _ _ h => h) (And.left HAB) (Or.inl ⟨by rfl, ?_⟩) ?_
            rotate_left
            · (intro w hSw; have hfact : w.cell? ⟨w2.heap.size, 0, none⟩ = some (Value.slice (some ⟨b, 0, none⟩) ps.length cap) := hSw; clear hSw; go_simp; try with_reducible rfl)
            try simp only [Act.put, List.setIfInBounds_toArray, List.set_cons_zero, List.set_cons_succ]
            refine wpAnyC_take 0 (i := 6) (v := ?_) (lv2_mono _ _) rfl (by kernel_rfl) (by kernel_rfl) (by kernel_rfl) (by kernel_rfl) (by kernel_rfl) (fun _ _ _ h => h) trivial (Or.inl ⟨by rfl, ?_⟩) ?_
            rotate_left
            · (intro w hSw; clear hSw; go_simp; try with_reducible rfl)
            try simp only [Act.put, List.setIfInBounds_toArray, List.set_cons_zero, List.set_cons_succ]
            refine wpAnyC_take 0 (i := 7) (v := ?_) (lv2_mono _ _) rfl (by kernel_rfl) (by kernel_rfl) (by kernel_rfl) (by kernel_rfl) (by kernel_rfl) (fun _ _ _ h => h) trivial (Or.inl ⟨by rfl, ?_⟩) ?_
            rotate_left
            · (intro w hSw; clear hSw; go_simp; try with_reducible rfl)
            try simp only [Act.put, List.setIfInBounds_toArray, List.set_cons_zero, List.set_cons_succ]
            refine wpAnyC_take 1 (i := 1) (v := ?_) (lv2_mono _ _) rfl (by kernel_rfl) (by kernel_rfl) (by kernel_rfl) (by kernel_rfl) (by kernel_rfl) (fun _ _ _ h => h) (And.left HAB) (Or.inl ⟨by rfl, ?_⟩) ?_
            rotate_left
            · (intro w hSw; have hfact : w.cell? ⟨w2.heap.size, 0, none⟩ = some (Value.slice (some ⟨b, 0, none⟩) ps.length cap) := hSw; clear hSw; go_simp; try with_reducible rfl)
            try simp only [Act.put, List.setIfInBounds_toArray, List.set_cons_zero, List.set_cons_succ]
            refine wpAnyC_take 2 (i := 8) (v := ?_) (lv2_mono _ _) rfl (by kernel_rfl) (by kernel_rfl) (by kernel_rfl) (by kernel_rfl) (by kernel_rfl) (fun _ _ _ h => h) HAB (Or.inl ⟨by rfl, ?_⟩) ?_
            rotate_left
            · (intro w hSw; have hfact : w.cell? ⟨b, i * 8 + 7, none⟩ = some (Value.slice Ak r.kids.length ck) := hSw.2; clear hSw; go_simp; try with_reducible rfl)
            try simp only [Act.put, List.setIfInBounds_toArray, List.set_cons_zero, List.set_cons_succ]
            refine wpAnyC_one (i := 11) (by kernel_rfl) rfl (fun K hK => ?_)
            go_simp
            go_at_call 20
            refine (CBe.out i _ SX9.out.cur (by omega)).mono ?_
            rintro _ w10 ⟨k, hkb, rfl, hC5, hg5⟩
            have S5 := Lib.hid (DS.moved SX9.out hC5 hg5)
            clear hC5 hg5
            refine Shut.out hK _ _ ⟨S5.out.box.cell 0, S5.out.cellr i 7 hk9 (by omega) HQ9.out⟩ ?_
            try simp only [Act.put, List.setIfInBounds_toArray, List.set_cons_zero, List.set_cons_succ]
            refine wpAnyC_one (i := 12) (by kernel_rfl) rfl (fun K hK => ?_)
            go_simp
            have S5' := Lib.hid (S5.out.ext (Ext_alloc (.cells #[.int .i64 k] 3) (Ext.refl _)))
            refine Shut.out hK _ _ ⟨S5'.out.box.cell 0, S5'.out.cellr i 7 hk9 (by omega) HQ9.out⟩ ?_
            try simp only [Act.put, List.setIfInBounds_toArray, List.set_cons_zero, List.set_cons_succ]
            refine wpAnyC_one (i := 13) (by kernel_rfl) rfl (fun K hK => ?_)
            refine step_appG rfl (.tmp 70) (.tmp 74) _ rfl E_int (by omega) wb _ vint (fun _ => rfl) (Value.slice Ak r.kids.length ck) rfl (some ⟨w10.heap.size, 0, none⟩) 1 1 (by first | rfl | (simp [Act.eval, Act.put]; done)) r.kids [(k : Int)] (S5'.out.rule i hk9 HQ9.out).k S5'.out.cur.2.1 rfl (fun _ => ⟨_, rfl, fun j u hu => (World.cell?_alloc_at' w10 [.int .i64 k] 3 j).trans (hu)⟩) (HB.out _) ?_
            intro v7 w9 ho7 he7 hv7 hg7
            obtain ⟨A9, c9, hsh, _⟩ := OwnL.rd ho7 (HL.out _)
            replace hsh : v7 = .slice A9 (r.kids.length + 1) c9 := (by rw [hsh, List.length_append]; rfl)
            subst hsh
            obtain ⟨⟨z7, y7, g7⟩, M7⟩ := S5'.out.app_k' i hk9 HQ9.out ho7 he7 hv7 hg7
            have z7 : w9.cell? ⟨b, i * 8 + 7, none⟩ = some (Value.slice Ak r.kids.length ck) := z7
            clear ho7 he7 hv7 hg7
            have M7 := Lib.hid M7
            refine Shut.out hK _ _ g7 ?_
            try simp only [Act.put, List.setIfInBounds_toArray, List.set_cons_zero, List.set_cons_succ]
            refine wpAnyC_one (i := 14) (by kernel_rfl) rfl (fun K hK => ?_)
            go_simp
            refine Shut.out hK _ _ trivial ?_
            try simp only [Act.put, List.setIfInBounds_toArray, List.set_cons_zero, List.set_cons_succ]
            refine wpAnyC_one (i := 15) (by kernel_rfl) rfl (fun K hK => ?_)
            go_simp
            refine Shut.out hK _ _ trivial ?_
            try simp only [Act.put, List.setIfInBounds_toArray, List.set_cons_zero, List.set_cons_succ]
            refine wpAnyC_one (i := 16) (by kernel_rfl) rfl (fun K hK => ?_)
            go_simp
            refine Shut.out hK _ _ trivial ?_
            try simp only [Act.put, List.setIfInBounds_toArray, List.set_cons_zero, List.set_cons_succ]
            refine wpAnyC_done (by kernel_rfl) ?_ _
            have HWP : Hid (WI ds (ps.set i (⟨{ r with tags := r.tags ++ [z0 + 1 + (y : Int)], kids := r.kids ++ [(k : Int)] }, .slice Ab r.bytes.length cb, .slice An r.names.length cn, .slice A7 (r.tags.length + 1) c7, .slice A9 (r.kids.length + 1) c9⟩ : RV)) (i + 1)) := by
              refine hWI.out.put hk hlt ?_
              rw [← HQR.out]
              exact .inr ⟨H7.out, by omega, y, k, hy3, hkb, by rw [HZL.out]⟩
            rw [List.set_set] at M7
            clear HAB SX9 S8 S5'
            go_wp2
            go_roundw
            case rel => exact ⟨i + 1, _, _, by omega, by go_num, HWP, M7⟩
            case measure => simp [intOf]; omega
          · clear HB5 S3 hWI
            go_wp2
            go_roundw
            case rel => exact ⟨i + 1, _, ps, by omega, by go_num, HWS, S5⟩
            case measure => simp [intOf]; omega
      · have hb7 : (r.kind != 7) = true := by simp [h7]
        clear h7
        rw [HW4.out] at S4
        clear HW4 HRb HRT S3 hWI hpl
        go_wp2
        go_roundw
        case rel => exact ⟨i + 1, _, ps, by omega, by go_num, HWS, S4⟩
        case measure => simp [intOf]; omega
    · obtain rfl : i = ds.length := by omega
      have d0 : decide ((ds.length : Int) < (ps.length : Int)) = false := decide_eq_false (by omega)
      have d1 : decide (ds.length < ps.length) = false := decide_eq_false (by omega)
      have d2 : ¬ ds.length < ps.length := by omega
      have cr0 : _ = some (Value.slice none 0 0) := S3.out.res.cell 0
      have yr0 := S3.out.res.free 0
      have OUT : Hid (OwnD wb (wr.setCell ⟨w.heap.size + 1, 0, none⟩ (.slice Av ps.length cap)) (.slice Av ps.length cap) ps ∧ Cur wb (wr.setCell ⟨w.heap.size + 1, 0, none⟩ (.slice Av ps.length cap)) p A l c ∧ w.grownBy (wr.setCell ⟨w.heap.size + 1, 0, none⟩ (.slice Av ps.length cap)) (some p)) :=
        ⟨S3.out.own.keep (grown_set wr ⟨w.heap.size + 1, 0, none⟩ _) (fun u hu b hb hh => by injection hh with hh; exact (S3.out.new u hu b hb).2.2.2 hh.symm), S3.out.cur.set (a := ⟨w.heap.size + 1, 0, none⟩) (fun hh => S3.out.pR hh.symm) (by show wb.heap.size ≤ w.heap.size + 1; omega) _, grown_new (a := ⟨w.heap.size + 1, 0, none⟩) S3.out.grow (by show w.heap.size ≤ w.heap.size + 1; omega) _⟩
      have z5 : (wr.setCell ⟨w.heap.size + 1, 0, none⟩ (.slice Av ps.length cap)).cell? ⟨w.heap.size + 1, 0, none⟩ = some (.slice Av ps.length cap) := World.cell?_setCell_same _ _ _ cr0
      have HNW := Lib.hid (fun u hu b hb => (S3.out.new u hu b hb).1)
      have HWZ := hWI
      clear S3 hWI hpl
      go_wp2_with fail
      refine bodyPost_ret (v := .agg #[.slice Av ps.length cap]) (by simp [results, Try.results57, go_sem, z5]) rfl ?_
      first
        | exact ⟨_, ps, rfl, HWZ.out, OUT.out.1, HNW.out, OUT.out.2.1, OUT.out.2.2⟩
        | exact ⟨_, rfl, ps, HWZ.out, OUT.out.1, HNW.out, OUT.out.2.1, OUT.out.2.2⟩
end Go.Proofs.Ytophjmphjdhjoaa

/- Slices that lie in blocks of their own, whatever their beginning: what they read stays while other blocks are written. -/
namespace Go.Proofs.Ytophjmphjdhjoaa
open Go.RowKit Go.Sort

/-- the blocks from n0 on that were there in w are as they were -/
def Same (n0 : Nat) (w w' : World) : Prop := w.heap.size ≤ w'.heap.size ∧ ∀ i, n0 ≤ i → i < w.heap.size → w'.heap[i]? = w.heap[i]?
theorem Same.refl (n0 : Nat) (w : World) : Same n0 w w := ⟨Nat.le_refl _, fun _ _ _ => rfl⟩
theorem Same.trans {n0 : Nat} {a b c : World} (h : Same n0 a b) (k : Same n0 b c) : Same n0 a c :=
  ⟨Nat.le_trans h.1 k.1, fun i h0 hi => (k.2 i h0 (Nat.lt_of_lt_of_le hi h.1)).trans (h.2 i h0 hi)⟩
theorem Same.of_ext {n0 : Nat} {w w' : World} (e : Ext w w') : Same n0 w w' := ⟨e.size, fun i _ hi => Below.block e i hi⟩
theorem Same.of_grown {n0 : Nat} {w w' : World} {row : Option Nat} (h : w.grownBy w' row) (hr : ∀ k, row = some k → k < n0 ∨ w.heap.size ≤ k) : Same n0 w w' :=
  ⟨h.size, fun i h0 hi => h.block i hi (fun hh => by have := hr i hh.symm; omega)⟩
theorem Same.set {n0 : Nat} {w : World} (a : Addr) (u : Value) (h : a.block < n0 ∨ w.heap.size ≤ a.block) : Same n0 w (w.setCell a u) :=
  Same.of_grown (grown_set w a u) (fun k hk => by injection hk with hk; subst hk; exact h)
theorem Same.up {n0 n1 : Nat} {w w' : World} (h : Same n0 w w') (hn : n0 ≤ n1) : Same n1 w w' := ⟨h.1, fun i h1 hi => h.2 i (by omega) hi⟩
/-- u reads as l, out of one block that none of X names -/
def RdB {α : Type} (f : α → Value) (X : Nat → Prop) (n0 : Nat) (w : World) (u : Value) (l : List α) : Prop :=
  ∃ A c, u = .slice A l.length c ∧ l.length ≤ c ∧ l.length ≤ 140737488351232 ∧ (0 < l.length → ∃ b off cs T fz, A = some ⟨b, off, none⟩ ∧ n0 ≤ b ∧ b < w.heap.size ∧ ¬ X b ∧ w.heap[b]? = some (.cells cs T fz) ∧ ∀ i (h : i < l.length), cs[off + i]? = some (f l[i]))
theorem RdB.same {α : Type} {f : α → Value} {X : Nat → Prop} {n0 : Nat} {w w' : World} {u : Value} {l : List α} (h : RdB f X n0 w u l) (hs : w.heap.size ≤ w'.heap.size) (hb : ∀ b, n0 ≤ b → b < w.heap.size → ¬ X b → w'.heap[b]? = w.heap[b]?) : RdB f X n0 w' u l := by
  obtain ⟨A, c, h1, h2, h2', h3⟩ := h
  refine ⟨A, c, h1, h2, h2', fun hp => ?_⟩
  obtain ⟨b, off, cs, T, fz, e1, e2, e3, e4, e5, e6⟩ := h3 hp
  exact ⟨b, off, cs, T, fz, e1, e2, by omega, e4, (hb b e2 e3 e4).trans e5, e6⟩
theorem RdB.rd {α : Type} {f : α → Value} {X : Nat → Prop} {n0 : Nat} {w : World} {u : Value} {l : List α} (h : RdB f X n0 w u l) : ∃ A c, u = .slice A l.length c ∧ Rd f w A l c := by
  obtain ⟨A, c, h1, h2, h2', h3⟩ := h
  refine ⟨A, c, h1, ⟨h2, by omega, fun hp => ?_⟩, h2'⟩
  obtain ⟨b, off, cs, T, fz, e1, e2, e3, e4, e5, e6⟩ := h3 hp
  exact ⟨b, off, e1, e3, fun w' e i hi => by
    have h5 : w'.heap[b]? = some (.cells cs T fz) := (Below.block e b e3).trans e5
    rw [cell_of_row w' b (off + i) cs T fz h5]
    exact e6 i hi⟩
theorem RdB.of_own {α : Type} {f : α → Value} {X : Nat → Prop} {n0 : Nat} {e : TypeId} {wb w : World} {u : Value} {l : List α} (h : OwnL f e wb w u l) (hl : l.length ≤ 140737488351232) (hn : ∀ b, u.ownBlock = some b → n0 ≤ b ∧ ¬ X b) : RdB f X n0 w u l := by
  rcases h.2 with ⟨rfl, h0⟩ | ⟨g, cap, cur, rfl, hb, hg, hnc, hcm, hcs, htake⟩
  · exact ⟨none, 0, by rw [h0], by omega, hl, fun hp => by omega⟩
  · obtain ⟨h1, h2⟩ := hn g rfl
    refine ⟨_, _, rfl, hnc, hl, fun hp => ⟨g, 0, cur, _, _, rfl, h1, (Array.getElem?_eq_some_iff.1 hg).1, h2, hg, fun i hi => ?_⟩⟩
    have h3 : (cur.toList.take (l.length * 1))[i]? = (l.map f)[i]? := by rw [htake]
    rw [List.getElem?_take, if_pos (by omega)] at h3
    rw [Nat.zero_add]
    simpa [hi] using h3
/-- u[1:] -/
theorem RdB.tail {α : Type} {f : α → Value} {X : Nat → Prop} {n0 : Nat} {w : World} {b off c : Nat} {x : α} {l : List α} (h : RdB f X n0 w (.slice (some ⟨b, off, none⟩) (x :: l).length c) (x :: l)) : RdB f X n0 w (.slice (some ⟨b, off + 1, none⟩) l.length (c - 1)) l := by
  obtain ⟨A, c', h1, h2, h2', h3⟩ := h
  injection h1 with q1 _ q2
  subst q1; subst q2
  simp only [List.length_cons] at h2 h2'
  refine ⟨_, _, rfl, by omega, by omega, fun hp => ?_⟩
  obtain ⟨b', off', cs, T, fz, e1, e2, e3, e4, e5, e6⟩ := h3 (by simp)
  injection e1 with e1
  injection e1 with e1 e1' _
  subst e1; subst e1'
  refine ⟨b, off + 1, cs, T, fz, rfl, e2, e3, e4, e5, fun i hi => ?_⟩
  have := e6 (i + 1) (by simp; omega)
  rw [show off + 1 + i = off + (i + 1) by omega, this]
  simp
/-- a rule's four slices -/
structure RuleB (X : Nat → Prop) (n0 : Nat) (w : World) (q : RV) : Prop where
  b : RdB vu8 X n0 w q.vb q.r.bytes
  n : RdB vstr X n0 w q.vn q.r.names
  t : RdB vint X n0 w q.vt q.r.tags
  k : RdB vint X n0 w q.vk q.r.kids
theorem RuleB.same {X : Nat → Prop} {n0 : Nat} {w w' : World} {q : RV} (h : RuleB X n0 w q) (hs : w.heap.size ≤ w'.heap.size) (hb : ∀ b, n0 ≤ b → b < w.heap.size → ¬ X b → w'.heap[b]? = w.heap[b]?) : RuleB X n0 w' q :=
  ⟨h.b.same hs hb, h.n.same hs hb, h.t.same hs hb, h.k.same hs hb⟩
/-- a description whose blocks lie from n0 on: what it reads stays while no such block is written -/
structure KeepD (n0 : Nat) (w : World) (v : Value) (ds : List DRule) : Prop where
  out : ∃ A c, v = .slice A ds.length c ∧ ∀ w', Same n0 w w' → RdD w' A ds c
theorem KeepD.rd {n0 : Nat} {w : World} {v : Value} {ds : List DRule} (h : KeepD n0 w v ds) : ∃ A c, v = .slice A ds.length c ∧ RdD w A ds c := by
  obtain ⟨A, c, h1, h2⟩ := h.out
  exact ⟨A, c, h1, h2 w (Same.refl _ _)⟩
theorem KeepD.same {n0 : Nat} {w w' : World} {v : Value} {ds : List DRule} (h : KeepD n0 w v ds) (e : Same n0 w w') : KeepD n0 w' v ds := by
  obtain ⟨A, c, h1, h2⟩ := h.out
  exact ⟨A, c, h1, fun w'' e' => h2 w'' (e.trans e')⟩
/-- a row of rules whose slices lie in other blocks -/
structure RowD (X : Nat → Prop) (n0 : Nat) (wb w : World) (v : Value) (ps : List RV) : Prop where
  row : Own 35 8 wb w v ps.length (ps.flatMap RV.cells)
  each : ∀ q ∈ ps, RuleB X n0 w q
  len : ps.length ≤ 24
  blk : ∀ b, v.ownBlock = some b → n0 ≤ b ∧ X b
theorem RowD.of_own {X : Nat → Prop} {n0 : Nat} {wb w : World} {v : Value} {ps : List RV} (h : OwnD wb w v ps) (hs : SmD (rulesOf ps)) (hv : ∀ b, v.ownBlock = some b → n0 ≤ b ∧ X b) (hx : ∀ u ∈ ps.flatMap RV.vals, ∀ b, u.ownBlock = some b → n0 ≤ b ∧ ¬ X b) : RowD X n0 wb w v ps := by
  refine ⟨h.row, fun q hq => ?_, by have := hs.1; simpa [rulesOf] using this, hv⟩
  have h1 := h.each q hq
  have h2 := (hs.2 _ (List.mem_map_of_mem hq)).short
  have h3 : ∀ u ∈ q.vals, ∀ b, u.ownBlock = some b → n0 ≤ b ∧ ¬ X b := fun u hu => hx u (List.mem_flatMap.2 ⟨q, hq, hu⟩)
  exact ⟨RdB.of_own h1.b h2.1 (h3 _ (by simp [RV.vals])), RdB.of_own h1.n h2.2.1 (h3 _ (by simp [RV.vals])), RdB.of_own h1.t h2.2.2.1 (h3 _ (by simp [RV.vals])), RdB.of_own h1.k h2.2.2.2 (h3 _ (by simp [RV.vals]))⟩
theorem RowD.shape {X : Nat → Prop} {n0 : Nat} {wb w : World} {v : Value} {ps : List RV} (h : RowD X n0 wb w v ps) : ∃ A c, v = .slice A ps.length c := by
  rcases h.row.2 with ⟨rfl, hn⟩ | ⟨g, cap, _, rfl, _⟩
  · exact ⟨none, 0, by rw [hn]⟩
  · exact ⟨_, _, rfl⟩
theorem RowD.rd {X : Nat → Prop} {n0 : Nat} {wb w : World} {v : Value} {ps : List RV} (h : RowD X n0 wb w v ps) : ∃ A c, v = .slice A (rulesOf ps).length c ∧ RdD w A (rulesOf ps) c := by
  have hlen : (rulesOf ps).length = ps.length := by simp [rulesOf]
  have h24 := h.len
  rcases h.row.2 with ⟨rfl, h0⟩ | ⟨g, cap, cur, rfl, hb, hg, hnc, hcm, hcs, htake⟩
  · exact ⟨none, 0, by rw [hlen, h0], by omega, by omega, fun hp => by omega⟩
  · refine ⟨_, _, by rw [hlen], by omega, by omega, fun hp => ⟨g, 0, rfl, (Array.getElem?_eq_some_iff.1 hg).1, fun i hi => ?_⟩⟩
    have hi' : i < ps.length := by omega
    have hr : (rulesOf ps)[i] = ps[i].r := by simp [rulesOf]
    have hc : ∀ (w' : World), Ext w w' → ∀ j, j < 8 → w'.cell? ⟨g, i * 8 + j, none⟩ = ps[i].cells[j]? := by
      intro w' e j hj
      rw [heap_row hg e, ← cells_get ps i j hi' hj, ← htake, List.getElem?_take, if_pos (by omega)]
      simp
    have hB := h.each _ (List.getElem_mem hi')
    obtain ⟨Ab, cb, e1, r1⟩ := hB.b.rd
    obtain ⟨An, cn, e2, r2⟩ := hB.n.rd
    obtain ⟨At, ct, e3, r3⟩ := hB.t.rd
    obtain ⟨Ak, ck, e4, r4⟩ := hB.k.rd
    rw [hr]
    refine ⟨Ab, cb, An, cn, At, ct, Ak, ck, ⟨r1.1, r2.1, r3.1, r4.1⟩, ?_⟩
    rw [← e1, ← e2, ← e3, ← e4, Nat.zero_add]
    exact ⟨fun w' e => by have := hc w' e 0 (by omega); simpa [RV.cells] using this, fun w' e => by have := hc w' e 1 (by omega); simpa [RV.cells] using this, fun w' e => by have := hc w' e 2 (by omega); simpa [RV.cells] using this, fun w' e => by have := hc w' e 3 (by omega); simpa [RV.cells] using this,
      fun w' e => by have := hc w' e 4 (by omega); simpa [RV.cells] using this, fun w' e => by have := hc w' e 5 (by omega); simpa [RV.cells] using this, fun w' e => by have := hc w' e 6 (by omega); simpa [RV.cells] using this, fun w' e => by have := hc w' e 7 (by omega); simpa [RV.cells] using this⟩
theorem RowD.same {X : Nat → Prop} {n0 : Nat} {wb w w' : World} {v : Value} {ps : List RV} (h : RowD X n0 wb w v ps) (e : Same n0 w w') : RowD X n0 wb w' v ps := by
  refine ⟨⟨h.row.1, ?_⟩, fun q hq => (h.each q hq).same e.1 (fun b h0 h1 _ => e.2 b h0 h1), h.len, h.blk⟩
  rcases h.row.2 with h0 | ⟨g, cap, cur, rfl, hb, hg, r⟩
  · exact .inl h0
  · exact .inr ⟨g, cap, cur, rfl, hb, (e.2 g (h.blk g rfl).1 (Array.getElem?_eq_some_iff.1 hg).1).trans hg, r⟩
theorem RowD.keep {X : Nat → Prop} {n0 : Nat} {wb w : World} {v : Value} {ps : List RV} (h : RowD X n0 wb w v ps) : KeepD n0 w v (rulesOf ps) := by
  obtain ⟨A, c, h1, _⟩ := h.rd
  refine ⟨A, c, h1, fun w' e => ?_⟩
  obtain ⟨A', c', h2, h3⟩ := (h.same e).rd
  rw [h1] at h2
  injection h2 with q1 _ q2
  subst q1; subst q2
  exact h3
end Go.Proofs.Ytophjmphjdhjoaa

/- A description while it is drawn, its rules' slices lying anywhere. -/
namespace Go.Proofs.Ytophjmphjdhjoaa
open Go.RowKit Go.Sort

def XB (g R : Nat) (v : Value) (b : Nat) : Prop := b = g ∨ b = R ∨ v.ownBlock = some b
structure DR (wb w wr : World) (p : Nat) (A : Option Addr) (l : List UInt8) (c g : Nat) (v : Value) (ps : List RV) (R : Nat) : Prop where
  box : Box wr g #[v] 26
  row : Own 35 8 wb wr v ps.length (ps.flatMap RV.cells)
  each : ∀ q ∈ ps, RuleB (XB g R v) w.heap.size wr q
  len : ps.length ≤ 24
  blk : ∀ b, v.ownBlock = some b → w.heap.size ≤ b ∧ b ≠ g ∧ b ≠ p ∧ b ≠ R
  cur : Cur wb wr p A l c
  grow : w.grownBy wr (some p)
  gw : w.heap.size ≤ g
  gb : wb.heap.size ≤ g
  pw : p < w.heap.size
  res : Box wr R #[.slice none 0 0] 26
  gR : g ≠ R
  Rw : w.heap.size ≤ R
theorem DR.of_DS {wb w wr : World} {p : Nat} {A : Option Addr} {l : List UInt8} {c g : Nat} {v : Value} {ps : List RV} {R : Nat} (h : DS wb w wr p A l c g v ps R) (hs : SmD (rulesOf ps)) (hp : p < w.heap.size) (hR : w.heap.size ≤ R) : DR wb w wr p A l c g v ps R := by
  have hfar := h.own.far
  unfold Far at hfar
  rw [List.pairwise_cons] at hfar
  have hx : ∀ u ∈ ps.flatMap RV.vals, ∀ b, u.ownBlock = some b → w.heap.size ≤ b ∧ ¬ XB g R v b := fun u hu b hb => by
    have h1 := h.new u (List.mem_cons_of_mem _ hu) b hb
    refine ⟨h1.1, ?_⟩
    rintro (h2 | h2 | h2)
    · exact h1.2.1 h2
    · exact h1.2.2.2 h2
    · exact hfar.1 u hu b h2 hb
  have h1 := RowD.of_own (X := XB g R v) (n0 := w.heap.size) h.own hs (fun b hb => ⟨(h.new v (List.mem_cons_self ..) b hb).1, .inr (.inr hb)⟩) hx
  exact ⟨h.box, h1.row, h1.each, h1.len, h.new v (List.mem_cons_self ..), h.cur, h.grow, h.gw, h.gb, hp, h.res, h.gR, hR⟩
theorem DR.moved {wb w wr w' : World} {p : Nat} {A : Option Addr} {l : List UInt8} {c g : Nat} {v : Value} {ps : List RV} {R : Nat} (h : DR wb w wr p A l c g v ps R) (hC : Cur wb w' p A l c) (hg : wr.grownBy w' (some p)) : DR wb w w' p A l c g v ps R :=
  ⟨h.box.moved hg (some_ne (by have := h.gw; have := h.pw; omega)), h.row.keep hg (fun b hb hh => by injection hh with hh; exact (h.blk b hb).2.2.1 hh.symm), fun q hq => (h.each q hq).same hg.size (fun b h0 h1 _ => hg.block b h1 (fun hh => by injection hh with hh; have := h.pw; omega)), h.len, h.blk, hC, h.grow.trans hg, h.gw, h.gb, h.pw, h.res.moved hg (some_ne (by have := h.Rw; have := h.pw; omega)), h.gR, h.Rw⟩
theorem DR.ext {wb w wr w' : World} {p : Nat} {A : Option Addr} {l : List UInt8} {c g : Nat} {v : Value} {ps : List RV} {R : Nat} (h : DR wb w wr p A l c g v ps R) (e : Ext wr w') : DR wb w w' p A l c g v ps R :=
  h.moved (h.cur.ext e) (grown_ext e _)
theorem DR.cellr {wb w wr : World} {p : Nat} {A : Option Addr} {l : List UInt8} {c g b n cap : Nat} {ps : List RV} {R : Nat} (h : DR wb w wr p A l c g (.slice (some ⟨b, 0, none⟩) n cap) ps R) (k j : Nat) (hk : k < ps.length) (hj : j < 8) {q : RV} (hq : ps[k] = q) : wr.cell? ⟨b, k * 8 + j, none⟩ = q.cells[j]? ∧ wr.frozen? ⟨b, k * 8 + j, none⟩ = false := by
  subst hq
  have hn : n = ps.length := by
    rcases h.row.2 with ⟨hh, _⟩ | ⟨_, _, _, hh, _⟩
    · cases hh
    · injection hh
  subst hn
  have hrow := h.row
  have h0 := hrow.cellAt (k * 8 + j) (by omega)
  rw [h0, cells_get ps k j hk hj]
  exact ⟨rfl, hrow.frozenAt _⟩
/-- a store into a rule's cell; the rule's slices, old or new, read as they should -/
theorem DR.put {wb w wr : World} {p : Nat} {A : Option Addr} {l : List UInt8} {c g b n cap : Nat} {ps : List RV} {R : Nat} (h : DR wb w wr p A l c g (.slice (some ⟨b, 0, none⟩) n cap) ps R) (k j : Nat) (hk : k < ps.length) (hj : j < 8) {q : RV} (hq : ps[k] = q) (u : Value) (p' : RV) (hc : p'.cells = q.cells.set j u) (hp' : RuleB (XB g R (.slice (some ⟨b, 0, none⟩) n cap)) w.heap.size wr p') :
    DR wb w (wr.setCell ⟨b, k * 8 + j, none⟩ u) p A l c g (.slice (some ⟨b, 0, none⟩) n cap) (ps.set k p') R := by
  subst hq
  have hn : n = ps.length := by
    rcases h.row.2 with ⟨hh, _⟩ | ⟨_, _, _, hh, _⟩
    · cases hh
    · injection hh
  subst hn
  have hb := h.blk b rfl
  have hblk := World.ownsRow.lt h.row b rfl
  have hrow := (h.row.stored (k * 8 + j) u).1
  rw [cells_put ps k j hk u p' hj hc] at hrow
  have hst : ∀ q, RuleB (XB g R (.slice (some ⟨b, 0, none⟩) ps.length cap)) w.heap.size wr q → RuleB (XB g R (.slice (some ⟨b, 0, none⟩) ps.length cap)) w.heap.size (wr.setCell ⟨b, k * 8 + j, none⟩ u) q := fun q hq =>
    hq.same (by simp) (fun b' _ _ hx => heap_setCell_other wr ⟨b, k * 8 + j, none⟩ b' u (fun hh => hx (.inr (.inr (congrArg some hh.symm)))))
  refine ⟨h.box.other hb.2.1.symm _ u, by rw [List.length_set]; exact hrow, fun q hq => ?_, by rw [List.length_set]; exact h.len, h.blk, h.cur.set (a := ⟨b, k * 8 + j, none⟩) hb.2.2.1 hblk.1 u, grown_new (a := ⟨b, k * 8 + j, none⟩) h.grow hb.1 u, h.gw, h.gb, h.pw, h.res.other hb.2.2.2.symm _ u, h.gR, h.Rw⟩
  rcases List.mem_or_eq_of_mem_set hq with h1 | rfl
  · exact hst q (h.each q h1)
  · exact hst q hp'
theorem DR.snoc {wb w W w4 : World} {p : Nat} {A : Option Addr} {l : List UInt8} {c g : Nat} {v v' : Value} {ps : List RV} {R : Nat} {q : RV} (h : DR wb w W p A l c g v ps R) (hq : RuleB (XB g R v) w.heap.size W q) (hl : ps.length < 24)
    (ho4 : Own 35 8 wb w4 v' (ps.length + 1) (ps.flatMap RV.cells ++ q.cells)) (he : Ext wb w4) (hg4 : W.grownBy w4 v.ownBlock) (hv : v'.ownBlock = v.ownBlock ∨ v'.ownBlock = some W.heap.size) :
    (w4.cell? ⟨g, 0, none⟩ = some v ∧ w4.frozen? ⟨g, 0, none⟩ = false) ∧ DR wb w (w4.setCell ⟨g, 0, none⟩ v') p A l c g v' (ps ++ [q]) R := by
  have hB : Box w4 g #[v] 26 := Box.moved h.box hg4 (fun hh => (h.blk g hh).2.1 rfl)
  have hR : Box w4 R #[.slice none 0 0] 26 := Box.moved h.res hg4 (fun hh => (h.blk R hh).2.2.2 rfl)
  have hlt := h.box.lt; have hlR := h.res.lt; have hlp := h.cur.lt; have hgs := h.grow.size
  have hvb : ∀ b, v'.ownBlock = some b → w.heap.size ≤ b ∧ b ≠ g ∧ b ≠ p ∧ b ≠ R := fun b hb => by
    rcases hv with hv | hv
    · exact h.blk b (hv.symm.trans hb)
    · rw [hv] at hb; injection hb with hb
      exact ⟨by omega, by omega, by omega, by omega⟩
  have hX : ∀ b, b < W.heap.size → ¬ XB g R v b → ¬ XB g R v' b := fun b hb hx => by
    rintro (h1 | h1 | h1)
    · exact hx (.inl h1)
    · exact hx (.inr (.inl h1))
    · rcases hv with hv | hv
      · exact hx (.inr (.inr (hv.symm.trans h1)))
      · rw [hv] at h1; injection h1 with h1; omega
  have up : ∀ {α : Type} {f : α → Value} {u : Value} {l : List α}, RdB f (XB g R v) w.heap.size W u l → RdB f (XB g R v') w.heap.size (w4.setCell ⟨g, 0, none⟩ v') u l := by
    intro α f u l hu
    obtain ⟨A', c', h1, h2, h2', h3⟩ := hu
    refine ⟨A', c', h1, h2, h2', fun hp => ?_⟩
    obtain ⟨b, off, cs, T, fz, e1, e2, e3, e4, e5, e6⟩ := h3 hp
    refine ⟨b, off, cs, T, fz, e1, e2, by have := hg4.size; simp; omega, hX b e3 e4, ?_, e6⟩
    rw [heap_setCell_other w4 ⟨g, 0, none⟩ b v' (fun hh => e4 (.inl hh))]
    exact (hg4.block b e3 (fun hh => e4 (.inr (.inr hh.symm)))).trans e5
  refine ⟨⟨hB.cell 0, hB.free 0⟩, hB.set 0 v', ?_, fun r hr => ?_, by simp; omega, hvb, (Cur.kept h.cur hg4 (fun hh => (h.blk p hh).2.2.1 rfl) he).set (a := ⟨g, 0, none⟩) (by have := h.gw; have := h.pw; show g ≠ p; omega) h.gb v', grown_new (a := ⟨g, 0, none⟩) (grown_own h.grow (fun b hh => (h.blk b hh).1) hg4) h.gw v', h.gw, h.gb, h.pw, hR.other (fun hh => h.gR hh.symm) 0 v', h.gR, h.Rw⟩
  · rw [List.length_append, List.flatMap_append, List.flatMap_cons, List.flatMap_nil, List.append_nil]
    exact ho4.keep (grown_set w4 ⟨g, 0, none⟩ v') (fun b hb hh => by injection hh with hh; exact (hvb b hb).2.1 hh.symm)
  · rcases List.mem_append.1 hr with hr | hr
    · have := h.each r hr
      exact ⟨up this.b, up this.n, up this.t, up this.k⟩
    · rw [List.mem_singleton.1 hr]
      exact ⟨up hq.b, up hq.n, up hq.t, up hq.k⟩
theorem DR.shape {wb w wr : World} {p : Nat} {A : Option Addr} {l : List UInt8} {c g : Nat} {v : Value} {ps : List RV} {R : Nat} (h : DR wb w wr p A l c g v ps R) : ∃ A' c', v = .slice A' ps.length c' := by
  rcases h.row.2 with ⟨rfl, hn⟩ | ⟨g, cap, _, rfl, _⟩
  · exact ⟨none, 0, by rw [hn]⟩
  · exact ⟨_, _, rfl⟩
/-- the result is stored -/
theorem DR.finish {wb w wr : World} {p : Nat} {A : Option Addr} {l : List UInt8} {c g : Nat} {v : Value} {ps : List RV} {R : Nat} (h : DR wb w wr p A l c g v ps R) (hbw : wb.heap.size ≤ w.heap.size) :
    KeepD w.heap.size (wr.setCell ⟨R, 0, none⟩ v) v (rulesOf ps) ∧ Cur wb (wr.setCell ⟨R, 0, none⟩ v) p A l c ∧ w.grownBy (wr.setCell ⟨R, 0, none⟩ v) (some p) ∧ (wr.setCell ⟨R, 0, none⟩ v).cell? ⟨R, 0, none⟩ = some v := by
  have hR : Box (wr.setCell ⟨R, 0, none⟩ v) R (#[.slice none 0 0].setIfInBounds 0 v) 26 := h.res.set 0 v
  refine ⟨?_, h.cur.set (a := ⟨R, 0, none⟩) (by have := h.Rw; have := h.pw; show R ≠ p; omega) (by have := h.Rw; show wb.heap.size ≤ R; omega) v, grown_new (a := ⟨R, 0, none⟩) h.grow h.Rw v, by simpa using hR.cell 0⟩
  have hrow : RowD (XB g R v) w.heap.size wb (wr.setCell ⟨R, 0, none⟩ v) v ps :=
    ⟨h.row.keep (grown_set wr ⟨R, 0, none⟩ v) (fun b hb hh => by injection hh with hh; exact (h.blk b hb).2.2.2 hh.symm), fun q hq => (h.each q hq).same (by simp) (fun b _ _ hx => heap_setCell_other wr ⟨R, 0, none⟩ b v (fun hh => hx (.inr (.inl hh)))), h.len, fun b hb => ⟨(h.blk b hb).1, .inr (.inr hb)⟩⟩
  exact hrow.keep
end Go.Proofs.Ytophjmphjdhjoaa

/- Draws of descriptions: l30Other (one rule of a description is changed). (Printed by gen/gx29.py.) -/
namespace Go.Proofs.Ytophjmphjdhjoaa
open Go.RowKit Go.Sort

theorem tailB {α : Type} {f : α → Value} {X : Nat → Prop} {n0 : Nat} {w : World} {b c : Nat} {l : List α} (h : RdB f X n0 w (.slice (some ⟨b, 0, none⟩) l.length c) l) : RdB f X n0 w (.slice (some ⟨b, 1, none⟩) (l.length - 1) (c - 1)) l.tail := by
  cases l with
  | nil =>
    obtain ⟨A, c', h1, h2, h2', h3⟩ := h
    injection h1 with q1 _ q2
    exact ⟨some ⟨b, 1, none⟩, c - 1, rfl, by simp, by simp, fun hp => by simp at hp⟩
  | cons x t => exact h.tail
theorem RdB_cap {X : Nat → Prop} {n0 : Nat} {w : World} {q : RV} {r : DRule} {vb vt : Value} {An Ak : Option Addr} {cn ck : Nat} (h : RuleB X n0 w q) (hq : q = ⟨r, vb, .slice An r.names.length cn, vt, .slice Ak r.kids.length ck⟩) : r.names.length ≤ cn ∧ r.kids.length ≤ ck := by
  subst hq
  obtain ⟨_, _, h1, h2, _⟩ := h.n
  obtain ⟨_, _, h3, h4, _⟩ := h.k
  dsimp only at h1 h2 h3 h4
  injection h1 with _ _ e1
  injection h3 with _ _ e2
  omega
theorem MadeD.tags {ds : List DRule} (h : MadeD ds) : ∀ i (hi : i < ds.length), ds[i].kind = 7 → 0 < ds[i].tags.length := by
  intro i hi h7
  have hk := (h i hi).ok
  unfold kindOk at hk
  rw [if_neg (by omega), if_neg (by omega), if_neg (by omega), if_neg (by omega), if_neg (by omega), if_neg (by omega), if_pos h7] at hk
  unfold choOk at hk
  simp only [Bool.and_eq_true, between_iff] at hk
  omega
theorem MadeD.kinds {ds : List DRule} (h : MadeD ds) : ∀ i (hi : i < ds.length), 1 ≤ ds[i].kind ∧ ds[i].kind ≤ 10 := by
  intro i hi
  have := (h i hi).ok
  unfold kindOk at this
  by_cases h1 : ds[i].kind = 1; · omega
  by_cases h2 : ds[i].kind = 2; · omega
  by_cases h3 : ds[i].kind = 3; · omega
  by_cases h4 : ds[i].kind = 4; · omega
  by_cases h5 : ds[i].kind = 5; · omega
  by_cases h6 : ds[i].kind = 6; · omega
  by_cases h7 : ds[i].kind = 7; · omega
  by_cases h8 : ds[i].kind = 8; · omega
  by_cases h9 : ds[i].kind = 9; · omega
  by_cases h10 : ds[i].kind = 10; · omega
  simp [h1, h2, h3, h4, h5, h6, h7, h8, h9, h10] at this
theorem MadeD.seq {ds : List DRule} (h : MadeD ds) : ∀ i (hi : i < ds.length), ds[i].kind = 6 → ds[i].kids.length = ds[i].names.length := by
  intro i hi h6
  have hk := (h i hi).ok
  unfold kindOk at hk
  rw [if_neg (by omega), if_neg (by omega), if_neg (by omega), if_neg (by omega), if_neg (by omega), if_pos h6] at hk
  unfold seqOk at hk
  simp only [Bool.and_eq_true, beq_iff_eq] at hk
  exact hk.1.1.2
/-- a wider rule's sizes -/
structure MidR (r : DRule) : Prop where
  sm : SmR r
  lens : r.bytes.length ≤ 10 ∧ r.names.length ≤ 10 ∧ r.tags.length ≤ 10 ∧ r.kids.length ≤ 10
  seq : r.kind = 6 → r.kids.length = r.names.length
  size : -100000 ≤ r.size ∧ r.size ≤ 100000 ∧ ∀ z ∈ r.kids, -150000 ≤ z ∧ z ≤ 150000
theorem WideR.mid {x y : DRule} {j : Nat} (h : WideR x y j) (hs : SmallR x) (hk : -100 ≤ x.kind ∧ x.kind ≤ 100) (hj : j ≤ 24) (h6 : x.kind = 6 → x.kids.length = x.names.length) : MidR y := by
  refine ⟨h.sm hs hk hj, ?_, ?_, ?_⟩
  · have := hs.lens
    rcases h with rfl | ⟨_, _, z, k, hz, hkb, rfl⟩
    · omega
    · simp only [List.length_append, List.length_singleton]; omega
  · rcases h with rfl | ⟨h7, _, z, k, hz, hkb, rfl⟩
    · exact h6
    · intro hh; dsimp only at hh; omega
  · have hi := hs.ints
    rcases h with rfl | ⟨_, _, z, k, hz, hkb, rfl⟩
    · exact ⟨hi.1.1, hi.1.2, fun z hz => by have := hi.2.2 z hz; omega⟩
    · refine ⟨hi.1.1, hi.1.2, fun u hu => ?_⟩
      have hk2 : (k : Int) ≤ 24 := by unfold below at hkb; split at hkb <;> omega
      rcases List.mem_append.1 hu with h1 | h1
      · have := hi.2.2 u h1; omega
      · rw [List.mem_singleton.1 h1]; omega
def MidD (ds : List DRule) : Prop := ds.length ≤ 12 ∧ ∀ r ∈ ds, MidR r
theorem MidD.sm {ds : List DRule} (h : MidD ds) : SmD ds := ⟨by have := h.1; omega, fun r hr => (h.2 r hr).sm⟩
theorem WI.mid {ds : List DRule} {ps : List RV} (h : WI ds ps ds.length) (hs : SmallD ds) (hM : MadeD ds) (hl : ds.length ≤ 12) : MidD (rulesOf ps) := by
  refine ⟨by have := h.len; simp [rulesOf]; omega, fun r hr => ?_⟩
  obtain ⟨q, hq, rfl⟩ := List.mem_map.1 hr
  obtain ⟨i, hi, rfl⟩ := List.getElem_of_mem hq
  have hi' : i < ds.length := by have := h.len; omega
  exact (h.wid i hi hi' hi').mid (hs.2 _ (List.getElem_mem hi')) (by have := hM.kinds i hi'; omega) (by omega) (hM.seq i hi')
set_option maxRecDepth 100000 in
set_option maxHeartbeats 16000000 in
theorem l30Other_c (Aa : Option Addr) (ds : List DRule) (ca : Nat) (hSm : SmallD ds) (hM : MadeD ds) (h0 : 0 < ds.length) (h12 : ds.length ≤ 12) (wb w : World) (p : Nat) (A : Option Addr) (l : List UInt8) (c : Nat) (hA : Bs wb A l c) (hC : Cur wb w p A l c) (hD : RdD w Aa ds ca) :
    Calls Try.prog 39 #[.pointer (some ⟨p, 0, none⟩), vdesc (.slice Aa ds.length ca)] w fun e w' => ∃ v es, e = .returned (vdesc v) ∧ SmD es ∧ KeepD w.heap.size w' v es ∧ Cur wb w' p A l c ∧ w.grownBy w' (some p) := by
  have hplt := hC.lt
  have hbw := hC.2.1.size
  have CBe := Lib.hid (fun n w h hn => l1Below_c n wb w p A l c hA h hn)
  have COn := Lib.hid (fun n w h hn => l1Once_c n wb w p A l c hA h hn)
  have CW := Lib.hid (fun w h hd => l29Wider_c Aa ds ca hSm hM.tags wb w p A l c hA h hd)
  have HD := Lib.hid hD
  have HMid := Lib.hid (fun ps (h : WI ds ps ds.length) => h.mid hSm hM h12)
  clear hSm hM
  obtain ⟨W0, hW0, HP, HR, e0, hsA⟩ := boxes2' w #[.slice Aa ds.length ca] #[.slice none 0 0] 26 26
  have HP0 := Lib.hid HP; have HR0 := Lib.hid HR
  have hsA := Lib.hid hsA
  clear HP HR
  unfold vdesc at *
  go_enter Try.func39, Try.ntmps39
  go_wp2_with fail
  rw [← hW0.out]
  refine (CW.out _ (hC.ext e0) (HD.out.ext e0)).mono ?_; rintro _ w2 ⟨v, ps, rfl, hWI, hO, hN, hC2, hg2⟩
  have hpl := hWI.len
  have hR2 := HR0.out.moved hg2 (some_ne (by have := hsA.out; omega))
  have hRl := hR2.lt
  have x2 := Ext_alloc (.cells #[v] 26) (Ext.refl w2)
  have hpl2 := hC2.lt
  have S2 : Hid (DS wb w (w2.alloc (.cells #[v] 26)) p A l c w2.heap.size v ps (w.heap.size + 1)) :=
    ⟨Box.new w2 _ _, hO.ext x2, fun u hu b hb => by
      have h1 := hN u hu b hb
      have h2 := (hO.block u hu b hb).2
      have := hsA.out
      exact ⟨by omega, by omega, by omega, by omega⟩, hC2.ext x2, ((grown_ext e0 _).trans hg2).trans (grown_ext x2 _), by omega, by omega, by omega, hR2.ext x2, by omega, by omega⟩
  have HMD := Lib.hid (HMid.out ps hWI)
  obtain ⟨b, cap, hv⟩ : ∃ b cap, v = .slice (some ⟨b, 0, none⟩) ps.length cap := by
    rcases hO.row.2 with ⟨_, h1⟩ | ⟨g, cap, cur, hv, _⟩
    · omega
    · exact ⟨g, cap, hv⟩
  subst hv
  have cd2 : _ = some (Value.slice (some ⟨b, 0, none⟩) ps.length cap) := S2.out.box.cell 0
  have hp0 : 0 < ps.length := by omega
  have hp12 : ps.length ≤ 12 := by omega
  clear hWI hO hN hC2 hg2 x2 hR2 CW HR0 hC e0 HMid HP0 hpl h0 h12
  go_wp2_with fail
  refine (CBe.out ps.length _ S2.out.cur (by omega)).mono ?_; rintro _ w3 ⟨k, hk0, rfl, hC3, hg3⟩
  have hk : k < ps.length := by unfold below at hk0; rw [if_neg (by omega)] at hk0; omega
  have S3 := Lib.hid (S2.out.moved hC3 hg3)
  clear hk0 hC3 hg3 S2 cd2
  have cd0 : _ = some (Value.slice (some ⟨b, 0, none⟩) ps.length cap) := S3.out.box.cell 0
  obtain ⟨q, hq⟩ : ∃ q, ps[k] = q := ⟨_, rfl⟩
  have hsr : MidR q.r := by rw [← hq]; exact HMD.out.2 _ (List.mem_map_of_mem (List.getElem_mem hk))
  have HRO := S3.out.rule k hk hq
  obtain ⟨r, vb, vn, vt, vk⟩ := q
  obtain ⟨Ab, cb, An, cn, At, ct, Ak, ck, hs1, hs2, hs3, hs4, hRS⟩ := HRO.rd hsr.sm.short
  dsimp only at hs1 hs2 hs3 hs4 hsr
  subst hs1; subst hs2; subst hs3; subst hs4
  have HQ := Lib.hid hq; have HSR := Lib.hid hsr
  have l0 : w3.cell? ⟨b, k * 8, none⟩ = some (.string r.nm) := S3.out.cellr k 0 hk (by omega) hq
  have l1 : w3.cell? ⟨b, k * 8 + 1, none⟩ = some (.int .i64 r.kind) := S3.out.cellr k 1 hk (by omega) hq
  have l2 : w3.cell? ⟨b, k * 8 + 2, none⟩ = some (.int .i64 r.size) := S3.out.cellr k 2 hk (by omega) hq
  have l3 : w3.cell? ⟨b, k * 8 + 3, none⟩ = some (.bool r.little) := S3.out.cellr k 3 hk (by omega) hq
  have l4 : w3.cell? ⟨b, k * 8 + 4, none⟩ = some (Value.slice Ab r.bytes.length cb) := S3.out.cellr k 4 hk (by omega) hq
  have l5 : w3.cell? ⟨b, k * 8 + 5, none⟩ = some (Value.slice An r.names.length cn) := S3.out.cellr k 5 hk (by omega) hq
  have l6 : w3.cell? ⟨b, k * 8 + 6, none⟩ = some (Value.slice At r.tags.length ct) := S3.out.cellr k 6 hk (by omega) hq
  have l7 : w3.cell? ⟨b, k * 8 + 7, none⟩ = some (Value.slice Ak r.kids.length ck) := S3.out.cellr k 7 hk (by omega) hq
  have b1 : (k : Int) < (ps.length : Int) := by omega
  have b0 : (0 : Int) ≤ (k : Int) := by omega
  have xr := Ext_alloc (.cells #[.string r.nm, .int .i64 r.kind, .int .i64 r.size, .bool r.little, .slice Ab r.bytes.length cb, .slice An r.names.length cn, .slice At r.tags.length ct, .slice Ak r.kids.length ck] 35) (Ext.refl w3)
  have HRb := Lib.hid (Box.new w3 #[.string r.nm, .int .i64 r.kind, .int .i64 r.size, .bool r.little, .slice Ab r.bytes.length cb, .slice An r.names.length cn, .slice At r.tags.length ct, .slice Ak r.kids.length ck] 35)
  have S4 := Lib.hid (S3.out.ext xr)
  have hrp : (some p : Option Nat) ≠ some w3.heap.size := some_ne (by have := S3.out.cur.lt; omega)
  obtain ⟨W4, hW4⟩ : ∃ W4, W4 = w3.alloc (.cells #[.string r.nm, .int .i64 r.kind, .int .i64 r.size, .bool r.little, .slice Ab r.bytes.length cb, .slice An r.names.length cn, .slice At r.tags.length ct, .slice Ak r.kids.length ck] 35) := ⟨_, rfl⟩
  rw [← hW4] at HRb S4
  have HW4 := Lib.hid hW4
  have HDR : Hid (∀ w' ps', DS wb w w' p A l c w2.heap.size (.slice (some ⟨b, 0, none⟩) ps.length cap) ps' (w.heap.size + 1) → SmD (rulesOf ps') → DR wb w w' p A l c w2.heap.size (.slice (some ⟨b, 0, none⟩) ps.length cap) ps' (w.heap.size + 1)) := fun w' ps' h hs => DR.of_DS h hs hplt (by omega)
  have HSET : Hid (∀ p' : RV, SmR p'.r → SmD (rulesOf (ps.set k p')) ∧ (ps.set k p').length = ps.length) := fun p' hp => ⟨SmD_set HMD.out.sm hp, by simp⟩
  have HSA := Lib.hid HMD.out.sm
  clear hq hsr HRO hRS xr hW4
  go_upto_block 0 with (fail)
  go_cut [23] from 23 to 104 (fun _ wx => ∃ ps', Hid (SmD (rulesOf ps')) ∧ ps'.length = ps.length ∧ Hid (DR wb w wx p A l c w2.heap.size (.slice (some ⟨b, 0, none⟩) ps.length cap) ps' (w.heap.size + 1)))
  case first =>
    have g0 : W4.cell? ⟨w2.heap.size, 0, none⟩ = some (Value.slice (some ⟨b, 0, none⟩) ps.length cap) := S4.out.box.cell 0
    rw [← HW4.out]
    rcases (by omega : r.kind = 3 ∨ r.kind = 6 ∨ r.kind = 10 ∨ r.kind = 1 ∨ (r.kind ≠ 3 ∧ r.kind ≠ 6 ∧ r.kind ≠ 10 ∧ r.kind ≠ 1)) with h3 | h6 | h10 | h1 | ⟨n3, n6, n10, n1⟩
    · have t3 : (r.kind == 3) = true := by simp [h3]
      clear h3
      have SX := Lib.hid (S4.out.ext (Ext_drew (Ext.refl W4)))
      have HAB : lv2 (fun w' => w'.cell? ⟨w2.heap.size, 0, none⟩ = some (Value.slice (some ⟨b, 0, none⟩) ps.length cap)) (fun _ => True) 2 W4.drew := ⟨SX.out.box.cell 0, trivial⟩
      go_wp2_with fail
      refine wp_region_C (C := fun j => lv2 (fun w' => w'.cell? ⟨w2.heap.size, 0, none⟩ = some (Value.slice (some ⟨b, 0, none⟩) ps.length cap)) (fun _ => True) (([0, 1, 0, 0, 2, 2, 0, 0, 0] : List Nat).getD j 0)) (by kernel_rfl) ?_
      refine wpAnyC_take 0 (i := 0) (v := ?_) (lv2_mono _ _) rfl (by kernel_rfl) (by kernel_rfl) (by kernel_rfl) (by kernel_rfl) (by kernel_rfl) (fun _ _ _ h => h) trivial (Or.inl ⟨by rfl, ?_⟩) ?_
      rotate_left
      · (intro w hSw; clear hSw; go_simp; try with_reducible rfl)
      try simp only [Act.put, List.setIfInBounds_toArray, List.set_cons_zero, List.set_cons_succ]
      refine wpAnyC_take 0 (i := 2) (v := ?_) (lv2_mono _ _) rfl (by kernel_rfl) (by kernel_rfl) (by kernel_rfl) (by kernel_rfl) (by kernel_rfl) (fun _ _ _ h => h) trivial (Or.inl ⟨by rfl, ?_⟩) ?_
      rotate_left
      · (intro w hSw; clear hSw; go_simp; try with_reducible rfl)
      try simp only [Act.put, List.setIfInBounds_toArray, List.set_cons_zero, List.set_cons_succ]
      refine wpAnyC_take 0 (i := 3) (v := ?_) (lv2_mono _ _) rfl (by kernel_rfl) (by kernel_rfl) (by kernel_rfl) (by kernel_rfl) (by kernel_rfl) (fun _ _ _ h => h) trivial (Or.inl ⟨by rfl, ?_⟩) ?_
      rotate_left
      · (intro w hSw; clear hSw; go_simp; try with_reducible rfl)
      try simp only [Act.put, List.setIfInBounds_toArray, List.set_cons_zero, List.set_cons_succ]
      refine wpAnyC_take 1 (i := 1) (v := ?_) (lv2_mono _ _) rfl (by kernel_rfl) (by kernel_rfl) (by kernel_rfl) (by kernel_rfl) (by kernel_rfl) (fun _ _ _ h => h) (And.left HAB) (Or.inl ⟨by rfl, ?_⟩) ?_
      rotate_left
      · (intro w hSw; have hfact : w.cell? ⟨w2.heap.size, 0, none⟩ = some (Value.slice (some ⟨b, 0, none⟩) ps.length cap) := hSw; clear hSw; go_simp; try with_reducible rfl)
      try simp only [Act.put, List.setIfInBounds_toArray, List.set_cons_zero, List.set_cons_succ]
      refine wpAnyC_one (i := 4) (by kernel_rfl) rfl (fun K hK => ?_)
      go_simp
      go_at_call 20
      refine (CBe.out 5 _ SX.out.cur (by omega)).mono ?_
      rintro _ w5 ⟨y, hy, rfl, hC5, hg5⟩
      have hy5 : y < 5 := by unfold below at hy; rw [if_neg (by omega)] at hy; omega
      have hw5 : IntKind.i64.wrap (1 + (y : Int)) = 1 + (y : Int) := IntWalk.i64_in _ (by omega)
      have S5 := Lib.hid (DS.moved SX.out hC5 hg5)
      clear hy hC5 hg5
      refine Shut.out hK _ _ ⟨S5.out.box.cell 0, trivial⟩ ?_
      try simp only [Act.put, List.setIfInBounds_toArray, List.set_cons_zero, List.set_cons_succ]
      refine wpAnyC_one (i := 5) (by kernel_rfl) rfl (fun K hK => ?_)
      go_simp
      refine Shut.out hK _ _ ⟨S5.out.box.cell 0, trivial⟩ ?_
      try simp only [Act.put, List.setIfInBounds_toArray, List.set_cons_zero, List.set_cons_succ]
      refine wpAnyC_one (i := 6) (by kernel_rfl) rfl (fun K hK => ?_)
      go_simp
      refine Shut.out hK _ _ trivial ?_
      try simp only [Act.put, List.setIfInBounds_toArray, List.set_cons_zero, List.set_cons_succ]
      refine wpAnyC_one (i := 7) (by kernel_rfl) rfl (fun K hK => ?_)
      go_simp
      refine Shut.out hK _ _ trivial ?_
      try simp only [Act.put, List.setIfInBounds_toArray, List.set_cons_zero, List.set_cons_succ]
      refine wpAnyC_one (i := 8) (by kernel_rfl) rfl (fun K hK => ?_)
      have PT := S5.out.put' k 2 hk (by omega) HQ.out (.int .i64 (1 + (y : Int))) (⟨{ r with size := 1 + (y : Int) }, (.slice Ab r.bytes.length cb), (.slice An r.names.length cn), (.slice At r.tags.length ct), (.slice Ak r.kids.length ck)⟩ : RV) rfl rfl ⟨rfl, rfl, rfl, rfl⟩
      have z5 : w5.cell? ⟨b, k * 8 + 2, none⟩ = some (.int .i64 r.size) := PT.1.1
      have y5 : w5.frozen? ⟨b, k * 8 + 2, none⟩ = false := PT.1.2
      have M7 := Lib.hid PT.2
      clear PT
      go_simp
      refine Shut.out hK _ _ trivial ?_
      try simp only [Act.put, List.setIfInBounds_toArray, List.set_cons_zero, List.set_cons_succ]
      refine wpAnyC_done (by kernel_rfl) ?_ _
      go_wp2_with fail
      go_meet
      have hsm := HSET.out (⟨{ r with size := 1 + (y : Int) }, (.slice Ab r.bytes.length cb), (.slice An r.names.length cn), (.slice At r.tags.length ct), (.slice Ak r.kids.length ck)⟩ : RV) ⟨HSR.out.sm.nm, HSR.out.sm.lens, HSR.out.sm.nms, HSR.out.sm.kind, ⟨by dsimp only; omega, HSR.out.sm.ints.2⟩⟩
      exact ⟨ps.set k (⟨{ r with size := 1 + (y : Int) }, (.slice Ab r.bytes.length cb), (.slice An r.names.length cn), (.slice At r.tags.length ct), (.slice Ak r.kids.length ck)⟩ : RV), hsm.1, hsm.2, HDR.out _ _ M7.out hsm.1⟩
    · have t3 : (r.kind == 3) = false := by simp [h6]
      have t6 : (r.kind == 6) = true := by simp [h6]
      have HKN := Lib.hid (HSR.out.seq h6)
      clear h6
      have q5 : W4.cell? ⟨w3.heap.size, 5, none⟩ = some (Value.slice An r.names.length cn) := HRb.out.cell 5
      by_cases h8 : r.names.length < 8
      · have d8 : decide ((r.names.length : Int) < 8) = true := decide_eq_true (by omega)
        have d8' : decide (r.names.length < 8) = true := decide_eq_true h8
        go_wp2_with fail
        refine (COn.out 2 _ S4.out.cur (by omega)).mono ?_; rintro _ w5 ⟨z, rfl, hC5, hg5⟩
        have S5 := Lib.hid (S4.out.moved hC5 hg5)
        have HB5 := Lib.hid (HRb.out.moved hg5 hrp)
        clear hC5 hg5 S4 HRb q5 g0 l0 l1 l2 l3 l4 l5 l6 l7
        have g0 : w5.cell? ⟨w2.heap.size, 0, none⟩ = some (Value.slice (some ⟨b, 0, none⟩) ps.length cap) := S5.out.box.cell 0
        cases z
        · have D4 := Lib.hid (HDR.out _ _ S5.out HSA.out)
          by_cases h1 : 1 < r.names.length
          · obtain ⟨bn, hbn⟩ : ∃ bn, An = some ⟨bn, 0, none⟩ := by
              rcases (S5.out.rule k hk HQ.out).n.2 with ⟨hh, h0⟩ | ⟨g, cap, cur, hv, _⟩
              · dsimp only at h0; omega
              · dsimp only at hv; injection hv with q1 _ _; exact ⟨g, q1⟩
            obtain ⟨bk, hbk⟩ : ∃ bk, Ak = some ⟨bk, 0, none⟩ := by
              have hkn := HKN.out
              rcases (S5.out.rule k hk HQ.out).k.2 with ⟨hh, h0⟩ | ⟨g, cap, cur, hv, _⟩
              · dsimp only at h0 hkn; omega
              · dsimp only at hv; injection hv with q1 _ _; exact ⟨g, q1⟩
            subst hbn; subst hbk
            have m5 : w5.cell? ⟨w3.heap.size, 5, none⟩ = some (Value.slice (some ⟨bn, 0, none⟩) r.names.length cn) := HB5.out.cell 5
            have d1 : decide ((1 : Int) < (r.names.length : Int)) = true := decide_eq_true (by omega)
            have d1' : decide (1 < r.names.length) = true := decide_eq_true h1
            have c1 : (1 : Int) ≤ (r.names.length : Int) := by omega
            have c2 : 1 ≤ r.names.length := by omega
            have hkl : r.kids.length = r.names.length := HKN.out
            have c3 : 1 ≤ r.kids.length := by omega
            have c4 : (1 : Int) ≤ (r.kids.length : Int) := by omega
            have hcn : ¬ cn = 1 := by have := RdB_cap (D4.out.each _ (List.getElem_mem hk)) HQ.out; omega
            have hck : ¬ ck = 1 := by have := RdB_cap (D4.out.each _ (List.getElem_mem hk)) HQ.out; omega
            have HKL := Lib.hid hkl; clear hkl
            have DX := Lib.hid (D4.out.ext (Ext_drew (Ext.refl w5)))
            have HBX := Lib.hid (HB5.out.ext (Ext_drew (Ext.refl w5)))
            have hRr := DX.out.each _ (List.getElem_mem hk)
            rw [HQ.out] at hRr
            have HRR := Lib.hid hRr; clear hRr
            have HAB : lv2 (fun w' => w'.cell? ⟨w2.heap.size, 0, none⟩ = some (Value.slice (some ⟨b, 0, none⟩) ps.length cap)) (fun w' => w'.cell? ⟨w3.heap.size, 5, none⟩ = some (Value.slice (some ⟨bn, 0, none⟩) r.names.length cn)) 2 w5.drew := ⟨DX.out.box.cell 0, HBX.out.cell 5⟩
            have CK := DX.out.cellr k 5 hk (by omega) HQ.out
            have z5 : w5.drew.cell? ⟨b, k * 8 + 5, none⟩ = some (Value.slice (some ⟨bn, 0, none⟩) r.names.length cn) := CK.1
            have y5 : w5.drew.frozen? ⟨b, k * 8 + 5, none⟩ = false := CK.2
            clear CK
            go_wp2_with fail
            refine wp_region_C (C := fun j => lv2 (fun w' => w'.cell? ⟨w2.heap.size, 0, none⟩ = some (Value.slice (some ⟨b, 0, none⟩) ps.length cap)) (fun w' => w'.cell? ⟨w3.heap.size, 5, none⟩ = some (Value.slice (some ⟨bn, 0, none⟩) r.names.length cn)) (([0, 3, 0, 0, 2, 0, 0, 0, 0] : List Nat).getD j 0)) (by kernel_rfl) ?_
            refine wpAnyC_take 0 (i := 0) (v := ?_) (lv2_mono _ _) rfl (by kernel_rfl) (by kernel_rfl) (by kernel_rfl) (by kernel_rfl) (by kernel_rfl) (fun _ _ _ h => h) trivial (Or.inl ⟨by rfl, ?_⟩) ?_
            rotate_left
            · (intro w hSw; clear hSw; go_simp; try with_reducible rfl)
            try simp only [Act.put, List.setIfInBounds_toArray, List.set_cons_zero, List.set_cons_succ]
            refine wpAnyC_take 0 (i := 2) (v := ?_) (lv2_mono _ _) rfl (by kernel_rfl) (by kernel_rfl) (by kernel_rfl) (by kernel_rfl) (by kernel_rfl) (fun _ _ _ h => h) trivial (Or.inl ⟨by rfl, ?_⟩) ?_
            rotate_left
            · (intro w hSw; clear hSw; go_simp; try with_reducible rfl)
            try simp only [Act.put, List.setIfInBounds_toArray, List.set_cons_zero, List.set_cons_succ]
            refine wpAnyC_take 0 (i := 3) (v := ?_) (lv2_mono _ _) rfl (by kernel_rfl) (by kernel_rfl) (by kernel_rfl) (by kernel_rfl) (by kernel_rfl) (fun _ _ _ h => h) trivial (Or.inl ⟨by rfl, ?_⟩) ?_
            rotate_left
            · (intro w hSw; clear hSw; go_simp; try with_reducible rfl)
            try simp only [Act.put, List.setIfInBounds_toArray, List.set_cons_zero, List.set_cons_succ]
            refine wpAnyC_take 2 (i := 4) (v := ?_) (lv2_mono _ _) rfl (by kernel_rfl) (by kernel_rfl) (by kernel_rfl) (by kernel_rfl) (by kernel_rfl) (fun _ _ _ h => h) HAB (Or.inl ⟨by rfl, ?_⟩) ?_
            rotate_left
            · (intro w hSw; have hfact : w.cell? ⟨w3.heap.size, 5, none⟩ = some (Value.slice (some ⟨bn, 0, none⟩) r.names.length cn) := hSw.2; clear hSw; go_simp; try with_reducible rfl)
            try simp only [Act.put, List.setIfInBounds_toArray, List.set_cons_zero, List.set_cons_succ]
            refine wpAnyC_take 0 (i := 5) (v := ?_) (lv2_mono _ _) rfl (by kernel_rfl) (by kernel_rfl) (by kernel_rfl) (by kernel_rfl) (by kernel_rfl) (fun _ _ _ h => h) trivial (Or.inl ⟨by rfl, ?_⟩) ?_
            rotate_left
            · (intro w hSw; clear hSw; go_simp; try with_reducible rfl)
            try simp only [Act.put, List.setIfInBounds_toArray, List.set_cons_zero, List.set_cons_succ]
            refine wpAnyC_take 3 (i := 1) (v := ?_) (lv2_mono _ _) rfl (by kernel_rfl) (by kernel_rfl) (by kernel_rfl) (by kernel_rfl) (by kernel_rfl) (fun _ _ _ h => h) HAB (Or.inl ⟨by rfl, ?_⟩) ?_
            rotate_left
            · (intro w hSw; have hfact : w.cell? ⟨w2.heap.size, 0, none⟩ = some (Value.slice (some ⟨b, 0, none⟩) ps.length cap) := hSw.1; clear hSw; go_simp; try with_reducible rfl)
            try simp only [Act.put, List.setIfInBounds_toArray, List.set_cons_zero, List.set_cons_succ]
            refine wpAnyC_one (i := 6) (by kernel_rfl) rfl (fun K hK => ?_)
            go_simp
            refine Shut.out hK _ _ trivial ?_
            try simp only [Act.put, List.setIfInBounds_toArray, List.set_cons_zero, List.set_cons_succ]
            refine wpAnyC_one (i := 7) (by kernel_rfl) rfl (fun K hK => ?_)
            go_simp
            refine Shut.out hK _ _ trivial ?_
            try simp only [Act.put, List.setIfInBounds_toArray, List.set_cons_zero, List.set_cons_succ]
            refine wpAnyC_one (i := 8) (by kernel_rfl) rfl (fun K hK => ?_)
            go_simp
            refine Shut.out hK _ _ trivial ?_
            try simp only [Act.put, List.setIfInBounds_toArray, List.set_cons_zero, List.set_cons_succ]
            refine wpAnyC_done (by kernel_rfl) ?_ _
            have M12 : Hid (DR wb w (World.drew (w5.setCell ⟨b, k * 8 + 5, none⟩ (Value.slice (some ⟨bn, 1, none⟩) (r.names.length - 1) (cn - 1)))) p A l c w2.heap.size (.slice (some ⟨b, 0, none⟩) ps.length cap) (ps.set k (⟨{ r with names := r.names.tail }, (.slice Ab r.bytes.length cb), (.slice (some ⟨bn, 1, none⟩) (r.names.length - 1) (cn - 1)), (.slice At r.tags.length ct), (.slice (some ⟨bk, 0, none⟩) r.kids.length ck)⟩ : RV)) (w.heap.size + 1)) := by
              have hr4 := D4.out.each _ (List.getElem_mem hk)
              rw [HQ.out] at hr4
              refine (D4.out.put k 5 hk (by omega) HQ.out (Value.slice (some ⟨bn, 1, none⟩) (r.names.length - 1) (cn - 1)) (⟨{ r with names := r.names.tail }, (.slice Ab r.bytes.length cb), (.slice (some ⟨bn, 1, none⟩) (r.names.length - 1) (cn - 1)), (.slice At r.tags.length ct), (.slice (some ⟨bk, 0, none⟩) r.kids.length ck)⟩ : RV) rfl ⟨hr4.b, ?_, hr4.t, hr4.k⟩).ext (Ext_drew (Ext.refl _))
              have hn := hr4.n
              exact tailB hn
            have HB12 := Lib.hid ((HB5.out.other (g' := b) (by have := (World.ownsRow.lt S3.out.own.row b rfl).2; omega) (k * 8 + 5) (Value.slice (some ⟨bn, 1, none⟩) (r.names.length - 1) (cn - 1))).ext (Ext_drew (Ext.refl _)))
            clear HAB z5 y5 m5 D4 S5 DX HRR HBX HB5 c1 c2
            obtain ⟨W12, hW12⟩ : ∃ W12, W12 = World.drew (w5.setCell ⟨b, k * 8 + 5, none⟩ (Value.slice (some ⟨bn, 1, none⟩) (r.names.length - 1) (cn - 1))) := ⟨_, rfl⟩
            rw [← hW12] at M12 HB12 ⊢
            clear hW12
            have hk12 : k < (ps.set k (⟨{ r with names := r.names.tail }, (.slice Ab r.bytes.length cb), (.slice (some ⟨bn, 1, none⟩) (r.names.length - 1) (cn - 1)), (.slice At r.tags.length ct), (.slice (some ⟨bk, 0, none⟩) r.kids.length ck)⟩ : RV)).length := by simpa using hk
            have HQ12 : Hid ((ps.set k (⟨{ r with names := r.names.tail }, (.slice Ab r.bytes.length cb), (.slice (some ⟨bn, 1, none⟩) (r.names.length - 1) (cn - 1)), (.slice At r.tags.length ct), (.slice (some ⟨bk, 0, none⟩) r.kids.length ck)⟩ : RV))[k]'hk12 = (⟨{ r with names := r.names.tail }, (.slice Ab r.bytes.length cb), (.slice (some ⟨bn, 1, none⟩) (r.names.length - 1) (cn - 1)), (.slice At r.tags.length ct), (.slice (some ⟨bk, 0, none⟩) r.kids.length ck)⟩ : RV)) := by show _ = _; simp
            have D12 := Lib.hid (M12.out.ext (Ext_drew (Ext.refl W12)))
            have HAB : lv2 (fun w' => w'.cell? ⟨w2.heap.size, 0, none⟩ = some (Value.slice (some ⟨b, 0, none⟩) ps.length cap)) (fun w' => w'.cell? ⟨w3.heap.size, 7, none⟩ = some (Value.slice (some ⟨bk, 0, none⟩) r.kids.length ck)) 2 W12.drew := ⟨D12.out.box.cell 0, (HB12.out.ext (Ext_drew (Ext.refl W12))).cell 7⟩
            have CK := D12.out.cellr k 7 hk12 (by omega) HQ12.out
            have z7 : W12.drew.cell? ⟨b, k * 8 + 7, none⟩ = some (Value.slice (some ⟨bk, 0, none⟩) r.kids.length ck) := CK.1
            have y7 : W12.drew.frozen? ⟨b, k * 8 + 7, none⟩ = false := CK.2
            have m7 : W12.cell? ⟨w3.heap.size, 7, none⟩ = some (Value.slice (some ⟨bk, 0, none⟩) r.kids.length ck) := HB12.out.cell 7
            clear CK
            go_wp2_with fail
            refine wp_region_C (C := fun j => lv2 (fun w' => w'.cell? ⟨w2.heap.size, 0, none⟩ = some (Value.slice (some ⟨b, 0, none⟩) ps.length cap)) (fun w' => w'.cell? ⟨w3.heap.size, 7, none⟩ = some (Value.slice (some ⟨bk, 0, none⟩) r.kids.length ck)) (([0, 3, 0, 0, 2, 0, 0, 0, 0] : List Nat).getD j 0)) (by kernel_rfl) ?_
            refine wpAnyC_take 0 (i := 0) (v := ?_) (lv2_mono _ _) rfl (by kernel_rfl) (by kernel_rfl) (by kernel_rfl) (by kernel_rfl) (by kernel_rfl) (fun _ _ _ h => h) trivial (Or.inl ⟨by rfl, ?_⟩) ?_
            rotate_left
            · (intro w hSw; clear hSw; go_simp; try with_reducible rfl)
            try simp only [Act.put, List.setIfInBounds_toArray, List.set_cons_zero, List.set_cons_succ]
            refine wpAnyC_take 0 (i := 2) (v := ?_) (lv2_mono _ _) rfl (by kernel_rfl) (by kernel_rfl) (by kernel_rfl) (by kernel_rfl) (by kernel_rfl) (fun _ _ _ h => h) trivial (Or.inl ⟨by rfl, ?_⟩) ?_
            rotate_left
            · (intro w hSw; clear hSw; go_simp; try with_reducible rfl)
            try simp only [Act.put, List.setIfInBounds_toArray, List.set_cons_zero, List.set_cons_succ]
            refine wpAnyC_take 0 (i := 3) (v := ?_) (lv2_mono _ _) rfl (by kernel_rfl) (by kernel_rfl) (by kernel_rfl) (by kernel_rfl) (by kernel_rfl) (fun _ _ _ h => h) trivial (Or.inl ⟨by rfl, ?_⟩) ?_
            rotate_left
            · (intro w hSw; clear hSw; go_simp; try with_reducible rfl)
            try simp only [Act.put, List.setIfInBounds_toArray, List.set_cons_zero, List.set_cons_succ]
            refine wpAnyC_take 2 (i := 4) (v := ?_) (lv2_mono _ _) rfl (by kernel_rfl) (by kernel_rfl) (by kernel_rfl) (by kernel_rfl) (by kernel_rfl) (fun _ _ _ h => h) HAB (Or.inl ⟨by rfl, ?_⟩) ?_
            rotate_left
            · (intro w hSw; have hfact : w.cell? ⟨w3.heap.size, 7, none⟩ = some (Value.slice (some ⟨bk, 0, none⟩) r.kids.length ck) := hSw.2; clear hSw; go_simp; try with_reducible rfl)
            try simp only [Act.put, List.setIfInBounds_toArray, List.set_cons_zero, List.set_cons_succ]
            refine wpAnyC_take 0 (i := 5) (v := ?_) (lv2_mono _ _) rfl (by kernel_rfl) (by kernel_rfl) (by kernel_rfl) (by kernel_rfl) (by kernel_rfl) (fun _ _ _ h => h) trivial (Or.inl ⟨by rfl, ?_⟩) ?_
            rotate_left
            · (intro w hSw; clear hSw; go_simp; try with_reducible rfl)
            try simp only [Act.put, List.setIfInBounds_toArray, List.set_cons_zero, List.set_cons_succ]
            refine wpAnyC_take 3 (i := 1) (v := ?_) (lv2_mono _ _) rfl (by kernel_rfl) (by kernel_rfl) (by kernel_rfl) (by kernel_rfl) (by kernel_rfl) (fun _ _ _ h => h) HAB (Or.inl ⟨by rfl, ?_⟩) ?_
            rotate_left
            · (intro w hSw; have hfact : w.cell? ⟨w2.heap.size, 0, none⟩ = some (Value.slice (some ⟨b, 0, none⟩) ps.length cap) := hSw.1; clear hSw; go_simp; try with_reducible rfl)
            try simp only [Act.put, List.setIfInBounds_toArray, List.set_cons_zero, List.set_cons_succ]
            refine wpAnyC_one (i := 6) (by kernel_rfl) rfl (fun K hK => ?_)
            go_simp
            refine Shut.out hK _ _ trivial ?_
            try simp only [Act.put, List.setIfInBounds_toArray, List.set_cons_zero, List.set_cons_succ]
            refine wpAnyC_one (i := 7) (by kernel_rfl) rfl (fun K hK => ?_)
            go_simp
            refine Shut.out hK _ _ trivial ?_
            try simp only [Act.put, List.setIfInBounds_toArray, List.set_cons_zero, List.set_cons_succ]
            refine wpAnyC_one (i := 8) (by kernel_rfl) rfl (fun K hK => ?_)
            go_simp
            refine Shut.out hK _ _ trivial ?_
            try simp only [Act.put, List.setIfInBounds_toArray, List.set_cons_zero, List.set_cons_succ]
            refine wpAnyC_done (by kernel_rfl) ?_ _
            have M13 : Hid (DR wb w (World.drew (W12.setCell ⟨b, k * 8 + 7, none⟩ (Value.slice (some ⟨bk, 1, none⟩) (r.kids.length - 1) (ck - 1)))) p A l c w2.heap.size (.slice (some ⟨b, 0, none⟩) ps.length cap) ((ps.set k (⟨{ r with names := r.names.tail }, (.slice Ab r.bytes.length cb), (.slice (some ⟨bn, 1, none⟩) (r.names.length - 1) (cn - 1)), (.slice At r.tags.length ct), (.slice (some ⟨bk, 0, none⟩) r.kids.length ck)⟩ : RV)).set k (⟨{ r with names := r.names.tail, kids := r.kids.tail }, (.slice Ab r.bytes.length cb), (.slice (some ⟨bn, 1, none⟩) (r.names.length - 1) (cn - 1)), (.slice At r.tags.length ct), (.slice (some ⟨bk, 1, none⟩) (r.kids.length - 1) (ck - 1))⟩ : RV)) (w.heap.size + 1)) := by
              have hr4 := M12.out.each _ (List.getElem_mem hk12)
              rw [HQ12.out] at hr4
              refine (M12.out.put k 7 hk12 (by omega) HQ12.out (Value.slice (some ⟨bk, 1, none⟩) (r.kids.length - 1) (ck - 1)) (⟨{ r with names := r.names.tail, kids := r.kids.tail }, (.slice Ab r.bytes.length cb), (.slice (some ⟨bn, 1, none⟩) (r.names.length - 1) (cn - 1)), (.slice At r.tags.length ct), (.slice (some ⟨bk, 1, none⟩) (r.kids.length - 1) (ck - 1))⟩ : RV) rfl ⟨hr4.b, hr4.n, hr4.t, ?_⟩).ext (Ext_drew (Ext.refl _))
              exact tailB hr4.k
            rw [List.set_set] at M13
            clear HAB z7 y7 m7 D12 M12 HB12
            obtain ⟨W13, hW13⟩ : ∃ W13, W13 = World.drew (W12.setCell ⟨b, k * 8 + 7, none⟩ (Value.slice (some ⟨bk, 1, none⟩) (r.kids.length - 1) (ck - 1))) := ⟨_, rfl⟩
            rw [← hW13] at M13 ⊢
            clear hW13
            go_wp2_with fail
            go_meet
            have hsm := HSET.out (⟨{ r with names := r.names.tail, kids := r.kids.tail }, (.slice Ab r.bytes.length cb), (.slice (some ⟨bn, 1, none⟩) (r.names.length - 1) (cn - 1)), (.slice At r.tags.length ct), (.slice (some ⟨bk, 1, none⟩) (r.kids.length - 1) (ck - 1))⟩ : RV) ⟨HSR.out.sm.nm, by have := HSR.out.sm.lens; simp only [List.length_tail]; omega, fun t ht => HSR.out.sm.nms t (List.mem_of_mem_tail ht), HSR.out.sm.kind, ⟨HSR.out.sm.ints.1, HSR.out.sm.ints.2.1, fun z hz => HSR.out.sm.ints.2.2 z (List.mem_of_mem_tail hz)⟩⟩
            exact ⟨ps.set k (⟨{ r with names := r.names.tail, kids := r.kids.tail }, (.slice Ab r.bytes.length cb), (.slice (some ⟨bn, 1, none⟩) (r.names.length - 1) (cn - 1)), (.slice At r.tags.length ct), (.slice (some ⟨bk, 1, none⟩) (r.kids.length - 1) (ck - 1))⟩ : RV), hsm.1, hsm.2, M13⟩
          · have m5 : w5.cell? ⟨w3.heap.size, 5, none⟩ = some (Value.slice An r.names.length cn) := HB5.out.cell 5
            have d1 : decide ((1 : Int) < (r.names.length : Int)) = false := decide_eq_false (by omega)
            have d1' : decide (1 < r.names.length) = false := decide_eq_false h1
            go_wp2_with fail
            go_meet
            exact ⟨ps, HSA.out, rfl, D4⟩
        · have m5 : w5.cell? ⟨w3.heap.size, 5, none⟩ = some (Value.slice An r.names.length cn) := HB5.out.cell 5
          have HBn : Hid (∀ z : ByteArray, (r.names.length + [z].length) * 16 ≤ 140737488355328) := fun z => by have := HSR.out.lens; simp; omega
          have HLn : Hid (∀ z : ByteArray, (r.names ++ [z]).length ≤ 140737488351232) := fun z => by have := HSR.out.lens; simp; omega
          have HBk : Hid (∀ z : Int, (r.kids.length + [z].length) * 8 ≤ 140737488355328) := fun z => by have := HSR.out.lens; simp; omega
          have HLk : Hid (∀ z : Int, (r.kids ++ [z]).length ≤ 140737488351232) := fun z => by have := HSR.out.lens; simp; omega
          have hblk := (S3.out.rule k hk HQ.out).block
          have HVN : Hid (∀ a, (Value.slice An r.names.length cn).ownBlock = some a → a < w3.heap.size) := fun a ha => (hblk _ (by simp [RV.vals]) a ha).2
          have HVK : Hid (∀ a, (Value.slice Ak r.kids.length ck).ownBlock = some a → a < w3.heap.size) := fun a ha => (hblk _ (by simp [RV.vals]) a ha).2
          have hb3 : b < w3.heap.size := (World.ownsRow.lt S3.out.own.row b rfl).2
          have SX := Lib.hid (S5.out.ext (Ext_drew (Ext.refl w5)))
          have HBX := Lib.hid (HB5.out.ext (Ext_drew (Ext.refl w5)))
          have HAB : lv2 (fun w' => w'.cell? ⟨w2.heap.size, 0, none⟩ = some (Value.slice (some ⟨b, 0, none⟩) ps.length cap)) (fun w' => w'.cell? ⟨w3.heap.size, 5, none⟩ = some (Value.slice An r.names.length cn)) 2 w5.drew := ⟨SX.out.box.cell 0, HBX.out.cell 5⟩
          clear hblk
          go_wp2_with fail
          refine wp_region_C (C := fun j => lv2 (fun w' => w'.cell? ⟨w2.heap.size, 0, none⟩ = some (Value.slice (some ⟨b, 0, none⟩) ps.length cap)) (fun w' => w'.cell? ⟨w3.heap.size, 5, none⟩ = some (Value.slice An r.names.length cn)) (([0, 3, 0, 0, 2, 3, 3, 0, 0, 0] : List Nat).getD j 0)) (by kernel_rfl) ?_
          refine wpAnyC_take 0 (i := 0) (v := ?_) (lv2_mono _ _) rfl (by kernel_rfl) (by kernel_rfl) (by kernel_rfl) (by kernel_rfl) (by kernel_rfl) (fun _ _ _ h => h) trivial (Or.inl ⟨by rfl, ?_⟩) ?_
          rotate_left
          · (intro w hSw; clear hSw; go_simp; try with_reducible rfl)
          try simp only [Act.put, List.setIfInBounds_toArray, List.set_cons_zero, List.set_cons_succ]
          refine wpAnyC_take 0 (i := 2) (v := ?_) (lv2_mono _ _) rfl (by kernel_rfl) (by kernel_rfl) (by kernel_rfl) (by kernel_rfl) (by kernel_rfl) (fun _ _ _ h => h) trivial (Or.inl ⟨by rfl, ?_⟩) ?_
          rotate_left
          · (intro w hSw; clear hSw; go_simp; try with_reducible rfl)
          try simp only [Act.put, List.setIfInBounds_toArray, List.set_cons_zero, List.set_cons_succ]
          refine wpAnyC_take 0 (i := 3) (v := ?_) (lv2_mono _ _) rfl (by kernel_rfl) (by kernel_rfl) (by kernel_rfl) (by kernel_rfl) (by kernel_rfl) (fun _ _ _ h => h) trivial (Or.inl ⟨by rfl, ?_⟩) ?_
          rotate_left
          · (intro w hSw; clear hSw; go_simp; try with_reducible rfl)
          try simp only [Act.put, List.setIfInBounds_toArray, List.set_cons_zero, List.set_cons_succ]
          refine wpAnyC_take 2 (i := 4) (v := ?_) (lv2_mono _ _) rfl (by kernel_rfl) (by kernel_rfl) (by kernel_rfl) (by kernel_rfl) (by kernel_rfl) (fun _ _ _ h => h) HAB (Or.inl ⟨by rfl, ?_⟩) ?_
          rotate_left
          · (intro w hSw; have hfact : w.cell? ⟨w3.heap.size, 5, none⟩ = some (Value.slice An r.names.length cn) := hSw.2; clear hSw; go_simp; try with_reducible rfl)
          try simp only [Act.put, List.setIfInBounds_toArray, List.set_cons_zero, List.set_cons_succ]
          refine wpAnyC_take 3 (i := 1) (v := ?_) (lv2_mono _ _) rfl (by kernel_rfl) (by kernel_rfl) (by kernel_rfl) (by kernel_rfl) (by kernel_rfl) (fun _ _ _ h => h) HAB (Or.inl ⟨by rfl, ?_⟩) ?_
          rotate_left
          · (intro w hSw; have hfact : w.cell? ⟨w2.heap.size, 0, none⟩ = some (Value.slice (some ⟨b, 0, none⟩) ps.length cap) := hSw.1; clear hSw; go_simp; try with_reducible rfl)
          try simp only [Act.put, List.setIfInBounds_toArray, List.set_cons_zero, List.set_cons_succ]
          refine wpAnyC_one (i := 5) (by kernel_rfl) rfl (fun K hK => ?_)
          go_simp
          have S5' := Lib.hid (SX.out.ext (Ext_alloc (.cells #[.string ⟨#[110, 101, 119]⟩] 9) (Ext.refl _)))
          have HB5' := Lib.hid (HBX.out.ext (Ext_alloc (.cells #[.string ⟨#[110, 101, 119]⟩] 9) (Ext.refl _)))
          refine Shut.out hK _ _ ⟨S5'.out.box.cell 0, HB5'.out.cell 5⟩ ?_
          try simp only [Act.put, List.setIfInBounds_toArray, List.set_cons_zero, List.set_cons_succ]
          refine wpAnyC_one (i := 6) (by kernel_rfl) rfl (fun K hK => ?_)
          refine step_appG rfl (.tmp 47) (.tmp 48) _ rfl E_str (by omega) wb _ vstr (fun _ => rfl) (Value.slice An r.names.length cn) rfl (some ⟨w5.heap.size, 0, none⟩) 1 1 (by first | rfl | (simp [Act.eval, Act.put]; done)) r.names [⟨#[110, 101, 119]⟩] (S5'.out.rule k hk HQ.out).n S5'.out.cur.2.1 rfl (fun _ => ⟨_, rfl, fun j u hu => (World.cell?_alloc_at' w5.drew [.string ⟨#[110, 101, 119]⟩] 9 j).trans hu⟩) (HBn.out _) ?_
          intro v7 w7 ho7 he7 hv7 hg7
          obtain ⟨A7, c7, hsh, _⟩ := OwnL.rd ho7 (HLn.out _)
          replace hsh : v7 = .slice A7 (r.names.length + 1) c7 := (by rw [hsh, List.length_append]; rfl)
          subst hsh
          obtain ⟨⟨z7, y7, g7⟩, M7⟩ := S5'.out.app_n' k hk HQ.out ho7 he7 hv7 hg7
          have z7 : w7.cell? ⟨b, k * 8 + 5, none⟩ = some (Value.slice An r.names.length cn) := z7
          have HB7 := Lib.hid (HB5'.out.moved hg7 (fun hh => Nat.lt_irrefl _ (HVN.out _ hh)))
          clear ho7 he7 hv7 hg7
          have M7 := Lib.hid M7
          refine Shut.out hK _ _ ⟨g7, HB7.out.cell 5⟩ ?_
          try simp only [Act.put, List.setIfInBounds_toArray, List.set_cons_zero, List.set_cons_succ]
          refine wpAnyC_one (i := 7) (by kernel_rfl) rfl (fun K hK => ?_)
          go_simp
          refine Shut.out hK _ _ trivial ?_
          try simp only [Act.put, List.setIfInBounds_toArray, List.set_cons_zero, List.set_cons_succ]
          refine wpAnyC_one (i := 8) (by kernel_rfl) rfl (fun K hK => ?_)
          go_simp
          refine Shut.out hK _ _ trivial ?_
          try simp only [Act.put, List.setIfInBounds_toArray, List.set_cons_zero, List.set_cons_succ]
          refine wpAnyC_one (i := 9) (by kernel_rfl) rfl (fun K hK => ?_)
          go_simp
          refine Shut.out hK _ _ trivial ?_
          try simp only [Act.put, List.setIfInBounds_toArray, List.set_cons_zero, List.set_cons_succ]
          refine wpAnyC_done (by kernel_rfl) ?_ _
          have HB9 := Lib.hid (HB7.out.other (g' := b) (by omega) (k * 8 + 5) (.slice A7 (r.names.length + 1) c7))
          clear HAB z7 y7 m5 SX HBX S5' HB5' HB7 S5 HB5 g7 g0
          obtain ⟨W9, hW9⟩ : ∃ W9, W9 = w7.setCell ⟨b, k * 8 + 5, none⟩ (.slice A7 (r.names.length + 1) c7) := ⟨_, rfl⟩
          rw [← hW9] at M7 HB9 ⊢
          clear hW9
          have S9 := M7
          clear M7
          have hk9 : k < (ps.set k (⟨{ r with names := r.names ++ [⟨#[110, 101, 119]⟩] }, (.slice Ab r.bytes.length cb), (.slice A7 (r.names.length + 1) c7), (.slice At r.tags.length ct), (.slice Ak r.kids.length ck)⟩ : RV)).length := by simpa using hk
          have HQ9 : Hid ((ps.set k (⟨{ r with names := r.names ++ [⟨#[110, 101, 119]⟩] }, (.slice Ab r.bytes.length cb), (.slice A7 (r.names.length + 1) c7), (.slice At r.tags.length ct), (.slice Ak r.kids.length ck)⟩ : RV))[k]'hk9 = (⟨{ r with names := r.names ++ [⟨#[110, 101, 119]⟩] }, (.slice Ab r.bytes.length cb), (.slice A7 (r.names.length + 1) c7), (.slice At r.tags.length ct), (.slice Ak r.kids.length ck)⟩ : RV)) := by show _ = _; simp
          have SX := Lib.hid (S9.out.ext (Ext_drew (Ext.refl W9)))
          have HBX := Lib.hid (HB9.out.ext (Ext_drew (Ext.refl W9)))
          have HAB : lv2 (fun w' => w'.cell? ⟨w2.heap.size, 0, none⟩ = some (Value.slice (some ⟨b, 0, none⟩) ps.length cap)) (fun w' => w'.cell? ⟨w3.heap.size, 7, none⟩ = some (Value.slice Ak r.kids.length ck)) 2 W9.drew := ⟨SX.out.box.cell 0, HBX.out.cell 7⟩
          go_wp2_with fail
          refine wp_region_C (C := fun j => lv2 (fun w' => w'.cell? ⟨w2.heap.size, 0, none⟩ = some (Value.slice (some ⟨b, 0, none⟩) ps.length cap)) (fun w' => w'.cell? ⟨w3.heap.size, 7, none⟩ = some (Value.slice Ak r.kids.length ck)) (([0, 3, 0, 0, 2, 0, 0, 3, 3, 3, 0, 0, 0] : List Nat).getD j 0)) (by kernel_rfl) ?_
          refine wpAnyC_take 0 (i := 0) (v := ?_) (lv2_mono _ _) rfl (by kernel_rfl) (by kernel_rfl) (by kernel_rfl) (by kernel_rfl) (by kernel_rfl) (fun _ _ _ h => h) trivial (Or.inl ⟨by rfl, ?_⟩) ?_
          rotate_left
          · (intro w hSw; clear hSw; go_simp; try with_reducible rfl)
          try simp only [Act.put, List.setIfInBounds_toArray, List.set_cons_zero, List.set_cons_succ]
          refine wpAnyC_take 0 (i := 2) (v := ?_) (lv2_mono _ _) rfl (by kernel_rfl) (by kernel_rfl) (by kernel_rfl) (by kernel_rfl) (by kernel_rfl) (fun _ _ _ h => h) trivial (Or.inl ⟨by rfl, ?_⟩) ?_
          rotate_left
          · (intro w hSw; clear hSw; go_simp; try with_reducible rfl)
          try simp only [Act.put, List.setIfInBounds_toArray, List.set_cons_zero, List.set_cons_succ]
          refine wpAnyC_take 0 (i := 3) (v := ?_) (lv2_mono _ _) rfl (by kernel_rfl) (by kernel_rfl) (by kernel_rfl) (by kernel_rfl) (by kernel_rfl) (fun _ _ _ h => h) trivial (Or.inl ⟨by rfl, ?_⟩) ?_
          rotate_left
          · (intro w hSw; clear hSw; go_simp; try with_reducible rfl)
          try simp only [Act.put, List.setIfInBounds_toArray, List.set_cons_zero, List.set_cons_succ]
          refine wpAnyC_take 0 (i := 5) (v := ?_) (lv2_mono _ _) rfl (by kernel_rfl) (by kernel_rfl) (by kernel_rfl) (by kernel_rfl) (by kernel_rfl) (fun _ _ _ h => h) trivial (Or.inl ⟨by rfl, ?_⟩) ?_
          rotate_left
          · (intro w hSw; clear hSw; go_simp; try with_reducible rfl)
          try simp only [Act.put, List.setIfInBounds_toArray, List.set_cons_zero, List.set_cons_succ]
          refine wpAnyC_take 0 (i := 6) (v := ?_) (lv2_mono _ _) rfl (by kernel_rfl) (by kernel_rfl) (by kernel_rfl) (by kernel_rfl) (by kernel_rfl) (fun _ _ _ h => h) trivial (Or.inl ⟨by rfl, ?_⟩) ?_
          rotate_left
          · (intro w hSw; clear hSw; go_simp; try with_reducible rfl)
          try simp only [Act.put, List.setIfInBounds_toArray, List.set_cons_zero, List.set_cons_succ]
          refine wpAnyC_take 2 (i := 4) (v := ?_) (lv2_mono _ _) rfl (by kernel_rfl) (by kernel_rfl) (by kernel_rfl) (by kernel_rfl) (by kernel_rfl) (fun _ _ _ h => h) HAB (Or.inl ⟨by rfl, ?_⟩) ?_
          rotate_left
          · (intro w hSw; have hfact : w.cell? ⟨w3.heap.size, 7, none⟩ = some (Value.slice Ak r.kids.length ck) := hSw.2; clear hSw; go_simp; try with_reducible rfl)
          try simp only [Act.put, List.setIfInBounds_toArray, List.set_cons_zero, List.set_cons_succ]
          refine wpAnyC_take 3 (i := 1) (v := ?_) (lv2_mono _ _) rfl (by kernel_rfl) (by kernel_rfl) (by kernel_rfl) (by kernel_rfl) (by kernel_rfl) (fun _ _ _ h => h) HAB (Or.inl ⟨by rfl, ?_⟩) ?_
          rotate_left
          · (intro w hSw; have hfact : w.cell? ⟨w2.heap.size, 0, none⟩ = some (Value.slice (some ⟨b, 0, none⟩) ps.length cap) := hSw.1; clear hSw; go_simp; try with_reducible rfl)
          try simp only [Act.put, List.setIfInBounds_toArray, List.set_cons_zero, List.set_cons_succ]
          refine wpAnyC_one (i := 7) (by kernel_rfl) rfl (fun K hK => ?_)
          go_simp
          go_at_call 20
          refine (CBe.out k _ SX.out.cur (by omega)).mono ?_
          rintro _ w10 ⟨x, hxb, rfl, hC10, hg10⟩
          have hx12 : x ≤ 12 := by unfold below at hxb; split at hxb <;> omega
          have S10 := Lib.hid (DS.moved SX.out hC10 hg10)
          have HB10 := Lib.hid (HBX.out.moved hg10 hrp)
          clear hC10 hg10 hxb
          refine Shut.out hK _ _ ⟨S10.out.box.cell 0, HB10.out.cell 7⟩ ?_
          try simp only [Act.put, List.setIfInBounds_toArray, List.set_cons_zero, List.set_cons_succ]
          refine wpAnyC_one (i := 8) (by kernel_rfl) rfl (fun K hK => ?_)
          go_simp
          have S5' := Lib.hid (S10.out.ext (Ext_alloc (.cells #[.int .i64 x] 3) (Ext.refl _)))
          have HB5' := Lib.hid (HB10.out.ext (Ext_alloc (.cells #[.int .i64 x] 3) (Ext.refl _)))
          refine Shut.out hK _ _ ⟨S5'.out.box.cell 0, HB5'.out.cell 7⟩ ?_
          try simp only [Act.put, List.setIfInBounds_toArray, List.set_cons_zero, List.set_cons_succ]
          refine wpAnyC_one (i := 9) (by kernel_rfl) rfl (fun K hK => ?_)
          refine step_appG rfl (.tmp 56) (.tmp 60) _ rfl E_int (by omega) wb _ vint (fun _ => rfl) (Value.slice Ak r.kids.length ck) rfl (some ⟨w10.heap.size, 0, none⟩) 1 1 (by first | rfl | (simp [Act.eval, Act.put]; done)) r.kids [(x : Int)] (S5'.out.rule k hk9 HQ9.out).k S5'.out.cur.2.1 rfl (fun _ => ⟨_, rfl, fun j u hu => (World.cell?_alloc_at' w10 [.int .i64 x] 3 j).trans hu⟩) (HBk.out _) ?_
          intro v9 w9 ho9 he9 hv9 hg9
          obtain ⟨A9, c9, hsh, _⟩ := OwnL.rd ho9 (HLk.out _)
          replace hsh : v9 = .slice A9 (r.kids.length + 1) c9 := (by rw [hsh, List.length_append]; rfl)
          subst hsh
          obtain ⟨⟨z9, y9, g9⟩, M9⟩ := S5'.out.app_k' k hk9 HQ9.out ho9 he9 hv9 hg9
          have z9 : w9.cell? ⟨b, k * 8 + 7, none⟩ = some (Value.slice Ak r.kids.length ck) := z9
          have HB99 := Lib.hid (HB5'.out.moved hg9 (fun hh => Nat.lt_irrefl _ (HVK.out _ hh)))
          clear ho9 he9 hv9 hg9
          have M9 := Lib.hid M9
          refine Shut.out hK _ _ ⟨g9, HB99.out.cell 7⟩ ?_
          try simp only [Act.put, List.setIfInBounds_toArray, List.set_cons_zero, List.set_cons_succ]
          refine wpAnyC_one (i := 10) (by kernel_rfl) rfl (fun K hK => ?_)
          go_simp
          refine Shut.out hK _ _ trivial ?_
          try simp only [Act.put, List.setIfInBounds_toArray, List.set_cons_zero, List.set_cons_succ]
          refine wpAnyC_one (i := 11) (by kernel_rfl) rfl (fun K hK => ?_)
          go_simp
          refine Shut.out hK _ _ trivial ?_
          try simp only [Act.put, List.setIfInBounds_toArray, List.set_cons_zero, List.set_cons_succ]
          refine wpAnyC_one (i := 12) (by kernel_rfl) rfl (fun K hK => ?_)
          go_simp
          refine Shut.out hK _ _ trivial ?_
          try simp only [Act.put, List.setIfInBounds_toArray, List.set_cons_zero, List.set_cons_succ]
          refine wpAnyC_done (by kernel_rfl) ?_ _
          rw [List.set_set] at M9
          clear HAB z9 y9 SX HBX S5' HB5' S9 HB9 S10 HB10 g9 HB99
          go_wp2_with fail
          go_meet
          have hsm := HSET.out (⟨{ r with names := r.names ++ [⟨#[110, 101, 119]⟩], kids := r.kids ++ [(x : Int)] }, (.slice Ab r.bytes.length cb), (.slice A7 (r.names.length + 1) c7), (.slice At r.tags.length ct), (.slice A9 (r.kids.length + 1) c9)⟩ : RV) ⟨HSR.out.sm.nm, by have := HSR.out.lens; simp only [List.length_append, List.length_singleton]; omega, fun t ht => (List.mem_append.1 ht).elim (fun h => HSR.out.sm.nms t h) (fun h => by rw [List.mem_singleton.1 h]; decide), HSR.out.sm.kind, ⟨HSR.out.sm.ints.1, HSR.out.sm.ints.2.1, fun z hz => (List.mem_append.1 hz).elim (fun h => HSR.out.sm.ints.2.2 z h) (fun h => by rw [List.mem_singleton.1 h]; omega)⟩⟩
          exact ⟨ps.set k (⟨{ r with names := r.names ++ [⟨#[110, 101, 119]⟩], kids := r.kids ++ [(x : Int)] }, (.slice Ab r.bytes.length cb), (.slice A7 (r.names.length + 1) c7), (.slice At r.tags.length ct), (.slice A9 (r.kids.length + 1) c9)⟩ : RV), hsm.1, hsm.2, HDR.out _ _ M9.out hsm.1⟩
      · have d8 : decide ((r.names.length : Int) < 8) = false := decide_eq_false (by omega)
        have d8' : decide (r.names.length < 8) = false := decide_eq_false h8
        have D4 := Lib.hid (HDR.out _ _ S4.out HSA.out)
        by_cases h1 : 1 < r.names.length
        · obtain ⟨bn, hbn⟩ : ∃ bn, An = some ⟨bn, 0, none⟩ := by
            rcases (S4.out.rule k hk HQ.out).n.2 with ⟨hh, h0⟩ | ⟨g, cap, cur, hv, _⟩
            · dsimp only at h0; omega
            · dsimp only at hv; injection hv with q1 _ _; exact ⟨g, q1⟩
          obtain ⟨bk, hbk⟩ : ∃ bk, Ak = some ⟨bk, 0, none⟩ := by
            have hkn := HKN.out
            rcases (S4.out.rule k hk HQ.out).k.2 with ⟨hh, h0⟩ | ⟨g, cap, cur, hv, _⟩
            · dsimp only at h0 hkn; omega
            · dsimp only at hv; injection hv with q1 _ _; exact ⟨g, q1⟩
          subst hbn; subst hbk
          have m5 : W4.cell? ⟨w3.heap.size, 5, none⟩ = some (Value.slice (some ⟨bn, 0, none⟩) r.names.length cn) := HRb.out.cell 5
          have d1 : decide ((1 : Int) < (r.names.length : Int)) = true := decide_eq_true (by omega)
          have d1' : decide (1 < r.names.length) = true := decide_eq_true h1
          have c1 : (1 : Int) ≤ (r.names.length : Int) := by omega
          have c2 : 1 ≤ r.names.length := by omega
          have hkl : r.kids.length = r.names.length := HKN.out
          have c3 : 1 ≤ r.kids.length := by omega
          have c4 : (1 : Int) ≤ (r.kids.length : Int) := by omega
          have hcn : ¬ cn = 1 := by have := RdB_cap (D4.out.each _ (List.getElem_mem hk)) HQ.out; omega
          have hck : ¬ ck = 1 := by have := RdB_cap (D4.out.each _ (List.getElem_mem hk)) HQ.out; omega
          have HKL := Lib.hid hkl; clear hkl
          have DX := Lib.hid (D4.out.ext (Ext_drew (Ext.refl W4)))
          have HBX := Lib.hid (HRb.out.ext (Ext_drew (Ext.refl W4)))
          have hRr := DX.out.each _ (List.getElem_mem hk)
          rw [HQ.out] at hRr
          have HRR := Lib.hid hRr; clear hRr
          have HAB : lv2 (fun w' => w'.cell? ⟨w2.heap.size, 0, none⟩ = some (Value.slice (some ⟨b, 0, none⟩) ps.length cap)) (fun w' => w'.cell? ⟨w3.heap.size, 5, none⟩ = some (Value.slice (some ⟨bn, 0, none⟩) r.names.length cn)) 2 W4.drew := ⟨DX.out.box.cell 0, HBX.out.cell 5⟩
          have CK := DX.out.cellr k 5 hk (by omega) HQ.out
          have z5 : W4.drew.cell? ⟨b, k * 8 + 5, none⟩ = some (Value.slice (some ⟨bn, 0, none⟩) r.names.length cn) := CK.1
          have y5 : W4.drew.frozen? ⟨b, k * 8 + 5, none⟩ = false := CK.2
          clear CK
          go_wp2_with fail
          refine wp_region_C (C := fun j => lv2 (fun w' => w'.cell? ⟨w2.heap.size, 0, none⟩ = some (Value.slice (some ⟨b, 0, none⟩) ps.length cap)) (fun w' => w'.cell? ⟨w3.heap.size, 5, none⟩ = some (Value.slice (some ⟨bn, 0, none⟩) r.names.length cn)) (([0, 3, 0, 0, 2, 0, 0, 0, 0] : List Nat).getD j 0)) (by kernel_rfl) ?_
          refine wpAnyC_take 0 (i := 0) (v := ?_) (lv2_mono _ _) rfl (by kernel_rfl) (by kernel_rfl) (by kernel_rfl) (by kernel_rfl) (by kernel_rfl) (fun _ _ _ h => h) trivial (Or.inl ⟨by rfl, ?_⟩) ?_
          rotate_left
          · (intro w hSw; clear hSw; go_simp; try with_reducible rfl)
          try simp only [Act.put, List.setIfInBounds_toArray, List.set_cons_zero, List.set_cons_succ]
          refine wpAnyC_take 0 (i := 2) (v := ?_) (lv2_mono _ _) rfl (by kernel_rfl) (by kernel_rfl) (by kernel_rfl) (by kernel_rfl) (by kernel_rfl) (fun _ _ _ h => h) trivial (Or.inl ⟨by rfl, ?_⟩) ?_
          rotate_left
          · (intro w hSw; clear hSw; go_simp; try with_reducible rfl)
          try simp only [Act.put, List.setIfInBounds_toArray, List.set_cons_zero, List.set_cons_succ]
          refine wpAnyC_take 0 (i := 3) (v := ?_) (lv2_mono _ _) rfl (by kernel_rfl) (by kernel_rfl) (by kernel_rfl) (by kernel_rfl) (by kernel_rfl) (fun _ _ _ h => h) trivial (Or.inl ⟨by rfl, ?_⟩) ?_
          rotate_left
          · (intro w hSw; clear hSw; go_simp; try with_reducible rfl)
          try simp only [Act.put, List.setIfInBounds_toArray, List.set_cons_zero, List.set_cons_succ]
          refine wpAnyC_take 2 (i := 4) (v := ?_) (lv2_mono _ _) rfl (by kernel_rfl) (by kernel_rfl) (by kernel_rfl) (by kernel_rfl) (by kernel_rfl) (fun _ _ _ h => h) HAB (Or.inl ⟨by rfl, ?_⟩) ?_
          rotate_left
          · (intro w hSw; have hfact : w.cell? ⟨w3.heap.size, 5, none⟩ = some (Value.slice (some ⟨bn, 0, none⟩) r.names.length cn) := hSw.2; clear hSw; go_simp; try with_reducible rfl)
          try simp only [Act.put, List.setIfInBounds_toArray, List.set_cons_zero, List.set_cons_succ]
          refine wpAnyC_take 0 (i := 5) (v := ?_) (lv2_mono _ _) rfl (by kernel_rfl) (by kernel_rfl) (by kernel_rfl) (by kernel_rfl) (by kernel_rfl) (fun _ _ _ h => h) trivial (Or.inl ⟨by rfl, ?_⟩) ?_
          rotate_left
          · (intro w hSw; clear hSw; go_simp; try with_reducible rfl)
          try simp only [Act.put, List.setIfInBounds_toArray, List.set_cons_zero, List.set_cons_succ]
          refine wpAnyC_take 3 (i := 1) (v := ?_) (lv2_mono _ _) rfl (by kernel_rfl) (by kernel_rfl) (by kernel_rfl) (by kernel_rfl) (by kernel_rfl) (fun _ _ _ h => h) HAB (Or.inl ⟨by rfl, ?_⟩) ?_
          rotate_left
          · (intro w hSw; have hfact : w.cell? ⟨w2.heap.size, 0, none⟩ = some (Value.slice (some ⟨b, 0, none⟩) ps.length cap) := hSw.1; clear hSw; go_simp; try with_reducible rfl)
          try simp only [Act.put, List.setIfInBounds_toArray, List.set_cons_zero, List.set_cons_succ]
          refine wpAnyC_one (i := 6) (by kernel_rfl) rfl (fun K hK => ?_)
          go_simp
          refine Shut.out hK _ _ trivial ?_
          try simp only [Act.put, List.setIfInBounds_toArray, List.set_cons_zero, List.set_cons_succ]
          refine wpAnyC_one (i := 7) (by kernel_rfl) rfl (fun K hK => ?_)
          go_simp
          refine Shut.out hK _ _ trivial ?_
          try simp only [Act.put, List.setIfInBounds_toArray, List.set_cons_zero, List.set_cons_succ]
          refine wpAnyC_one (i := 8) (by kernel_rfl) rfl (fun K hK => ?_)
          go_simp
          refine Shut.out hK _ _ trivial ?_
          try simp only [Act.put, List.setIfInBounds_toArray, List.set_cons_zero, List.set_cons_succ]
          refine wpAnyC_done (by kernel_rfl) ?_ _
          have M12 : Hid (DR wb w (World.drew (W4.setCell ⟨b, k * 8 + 5, none⟩ (Value.slice (some ⟨bn, 1, none⟩) (r.names.length - 1) (cn - 1)))) p A l c w2.heap.size (.slice (some ⟨b, 0, none⟩) ps.length cap) (ps.set k (⟨{ r with names := r.names.tail }, (.slice Ab r.bytes.length cb), (.slice (some ⟨bn, 1, none⟩) (r.names.length - 1) (cn - 1)), (.slice At r.tags.length ct), (.slice (some ⟨bk, 0, none⟩) r.kids.length ck)⟩ : RV)) (w.heap.size + 1)) := by
            have hr4 := D4.out.each _ (List.getElem_mem hk)
            rw [HQ.out] at hr4
            refine (D4.out.put k 5 hk (by omega) HQ.out (Value.slice (some ⟨bn, 1, none⟩) (r.names.length - 1) (cn - 1)) (⟨{ r with names := r.names.tail }, (.slice Ab r.bytes.length cb), (.slice (some ⟨bn, 1, none⟩) (r.names.length - 1) (cn - 1)), (.slice At r.tags.length ct), (.slice (some ⟨bk, 0, none⟩) r.kids.length ck)⟩ : RV) rfl ⟨hr4.b, ?_, hr4.t, hr4.k⟩).ext (Ext_drew (Ext.refl _))
            have hn := hr4.n
            exact tailB hn
          have HB12 := Lib.hid ((HRb.out.other (g' := b) (by have := (World.ownsRow.lt S3.out.own.row b rfl).2; omega) (k * 8 + 5) (Value.slice (some ⟨bn, 1, none⟩) (r.names.length - 1) (cn - 1))).ext (Ext_drew (Ext.refl _)))
          clear HAB z5 y5 m5 D4 S4 DX HRR HBX HRb c1 c2
          obtain ⟨W12, hW12⟩ : ∃ W12, W12 = World.drew (W4.setCell ⟨b, k * 8 + 5, none⟩ (Value.slice (some ⟨bn, 1, none⟩) (r.names.length - 1) (cn - 1))) := ⟨_, rfl⟩
          rw [← hW12] at M12 HB12 ⊢
          clear hW12
          have hk12 : k < (ps.set k (⟨{ r with names := r.names.tail }, (.slice Ab r.bytes.length cb), (.slice (some ⟨bn, 1, none⟩) (r.names.length - 1) (cn - 1)), (.slice At r.tags.length ct), (.slice (some ⟨bk, 0, none⟩) r.kids.length ck)⟩ : RV)).length := by simpa using hk
          have HQ12 : Hid ((ps.set k (⟨{ r with names := r.names.tail }, (.slice Ab r.bytes.length cb), (.slice (some ⟨bn, 1, none⟩) (r.names.length - 1) (cn - 1)), (.slice At r.tags.length ct), (.slice (some ⟨bk, 0, none⟩) r.kids.length ck)⟩ : RV))[k]'hk12 = (⟨{ r with names := r.names.tail }, (.slice Ab r.bytes.length cb), (.slice (some ⟨bn, 1, none⟩) (r.names.length - 1) (cn - 1)), (.slice At r.tags.length ct), (.slice (some ⟨bk, 0, none⟩) r.kids.length ck)⟩ : RV)) := by show _ = _; simp
          have D12 := Lib.hid (M12.out.ext (Ext_drew (Ext.refl W12)))
          have HAB : lv2 (fun w' => w'.cell? ⟨w2.heap.size, 0, none⟩ = some (Value.slice (some ⟨b, 0, none⟩) ps.length cap)) (fun w' => w'.cell? ⟨w3.heap.size, 7, none⟩ = some (Value.slice (some ⟨bk, 0, none⟩) r.kids.length ck)) 2 W12.drew := ⟨D12.out.box.cell 0, (HB12.out.ext (Ext_drew (Ext.refl W12))).cell 7⟩
          have CK := D12.out.cellr k 7 hk12 (by omega) HQ12.out
          have z7 : W12.drew.cell? ⟨b, k * 8 + 7, none⟩ = some (Value.slice (some ⟨bk, 0, none⟩) r.kids.length ck) := CK.1
          have y7 : W12.drew.frozen? ⟨b, k * 8 + 7, none⟩ = false := CK.2
          have m7 : W12.cell? ⟨w3.heap.size, 7, none⟩ = some (Value.slice (some ⟨bk, 0, none⟩) r.kids.length ck) := HB12.out.cell 7
          clear CK
          go_wp2_with fail
          refine wp_region_C (C := fun j => lv2 (fun w' => w'.cell? ⟨w2.heap.size, 0, none⟩ = some (Value.slice (some ⟨b, 0, none⟩) ps.length cap)) (fun w' => w'.cell? ⟨w3.heap.size, 7, none⟩ = some (Value.slice (some ⟨bk, 0, none⟩) r.kids.length ck)) (([0, 3, 0, 0, 2, 0, 0, 0, 0] : List Nat).getD j 0)) (by kernel_rfl) ?_
          refine wpAnyC_take 0 (i := 0) (v := ?_) (lv2_mono _ _) rfl (by kernel_rfl) (by kernel_rfl) (by kernel_rfl) (by kernel_rfl) (by kernel_rfl) (fun _ _ _ h => h) trivial (Or.inl ⟨by rfl, ?_⟩) ?_
          rotate_left
          · (intro w hSw; clear hSw; go_simp; try with_reducible rfl)
          try simp only [Act.put, List.setIfInBounds_toArray, List.set_cons_zero, List.set_cons_succ]
          refine wpAnyC_take 0 (i := 2) (v := ?_) (lv2_mono _ _) rfl (by kernel_rfl) (by kernel_rfl) (by kernel_rfl) (by kernel_rfl) (by kernel_rfl) (fun _ _ _ h => h) trivial (Or.inl ⟨by rfl, ?_⟩) ?_
          rotate_left
          · (intro w hSw; clear hSw; go_simp; try with_reducible rfl)
          try simp only [Act.put, List.setIfInBounds_toArray, List.set_cons_zero, List.set_cons_succ]
          refine wpAnyC_take 0 (i := 3) (v := ?_) (lv2_mono _ _) rfl (by kernel_rfl) (by kernel_rfl) (by kernel_rfl) (by kernel_rfl) (by kernel_rfl) (fun _ _ _ h => h) trivial (Or.inl ⟨by rfl, ?_⟩) ?_
          rotate_left
          · (intro w hSw; clear hSw; go_simp; try with_reducible rfl)
          try simp only [Act.put, List.setIfInBounds_toArray, List.set_cons_zero, List.set_cons_succ]
          refine wpAnyC_take 2 (i := 4) (v := ?_) (lv2_mono _ _) rfl (by kernel_rfl) (by kernel_rfl) (by kernel_rfl) (by kernel_rfl) (by kernel_rfl) (fun _ _ _ h => h) HAB (Or.inl ⟨by rfl, ?_⟩) ?_
          rotate_left
          · (intro w hSw; have hfact : w.cell? ⟨w3.heap.size, 7, none⟩ = some (Value.slice (some ⟨bk, 0, none⟩) r.kids.length ck) := hSw.2; clear hSw; go_simp; try with_reducible rfl)
          try simp only [Act.put, List.setIfInBounds_toArray, List.set_cons_zero, List.set_cons_succ]
          refine wpAnyC_take 0 (i := 5) (v := ?_) (lv2_mono _ _) rfl (by kernel_rfl) (by kernel_rfl) (by kernel_rfl) (by kernel_rfl) (by kernel_rfl) (fun _ _ _ h => h) trivial (Or.inl ⟨by rfl, ?_⟩) ?_
          rotate_left
          · (intro w hSw; clear hSw; go_simp; try with_reducible rfl)
          try simp only [Act.put, List.setIfInBounds_toArray, List.set_cons_zero, List.set_cons_succ]
          refine wpAnyC_take 3 (i := 1) (v := ?_) (lv2_mono _ _) rfl (by kernel_rfl) (by kernel_rfl) (by kernel_rfl) (by kernel_rfl) (by kernel_rfl) (fun _ _ _ h => h) HAB (Or.inl ⟨by rfl, ?_⟩) ?_
          rotate_left
          · (intro w hSw; have hfact : w.cell? ⟨w2.heap.size, 0, none⟩ = some (Value.slice (some ⟨b, 0, none⟩) ps.length cap) := hSw.1; clear hSw; go_simp; try with_reducible rfl)
          try simp only [Act.put, List.setIfInBounds_toArray, List.set_cons_zero, List.set_cons_succ]
          refine wpAnyC_one (i := 6) (by kernel_rfl) rfl (fun K hK => ?_)
          go_simp
          refine Shut.out hK _ _ trivial ?_
          try simp only [Act.put, List.setIfInBounds_toArray, List.set_cons_zero, List.set_cons_succ]
          refine wpAnyC_one (i := 7) (by kernel_rfl) rfl (fun K hK => ?_)
          go_simp
          refine Shut.out hK _ _ trivial ?_
          try simp only [Act.put, List.setIfInBounds_toArray, List.set_cons_zero, List.set_cons_succ]
          refine wpAnyC_one (i := 8) (by kernel_rfl) rfl (fun K hK => ?_)
          go_simp
          refine Shut.out hK _ _ trivial ?_
          try simp only [Act.put, List.setIfInBounds_toArray, List.set_cons_zero, List.set_cons_succ]
          refine wpAnyC_done (by kernel_rfl) ?_ _
          have M13 : Hid (DR wb w (World.drew (W12.setCell ⟨b, k * 8 + 7, none⟩ (Value.slice (some ⟨bk, 1, none⟩) (r.kids.length - 1) (ck - 1)))) p A l c w2.heap.size (.slice (some ⟨b, 0, none⟩) ps.length cap) ((ps.set k (⟨{ r with names := r.names.tail }, (.slice Ab r.bytes.length cb), (.slice (some ⟨bn, 1, none⟩) (r.names.length - 1) (cn - 1)), (.slice At r.tags.length ct), (.slice (some ⟨bk, 0, none⟩) r.kids.length ck)⟩ : RV)).set k (⟨{ r with names := r.names.tail, kids := r.kids.tail }, (.slice Ab r.bytes.length cb), (.slice (some ⟨bn, 1, none⟩) (r.names.length - 1) (cn - 1)), (.slice At r.tags.length ct), (.slice (some ⟨bk, 1, none⟩) (r.kids.length - 1) (ck - 1))⟩ : RV)) (w.heap.size + 1)) := by
            have hr4 := M12.out.each _ (List.getElem_mem hk12)
            rw [HQ12.out] at hr4
            refine (M12.out.put k 7 hk12 (by omega) HQ12.out (Value.slice (some ⟨bk, 1, none⟩) (r.kids.length - 1) (ck - 1)) (⟨{ r with names := r.names.tail, kids := r.kids.tail }, (.slice Ab r.bytes.length cb), (.slice (some ⟨bn, 1, none⟩) (r.names.length - 1) (cn - 1)), (.slice At r.tags.length ct), (.slice (some ⟨bk, 1, none⟩) (r.kids.length - 1) (ck - 1))⟩ : RV) rfl ⟨hr4.b, hr4.n, hr4.t, ?_⟩).ext (Ext_drew (Ext.refl _))
            exact tailB hr4.k
          rw [List.set_set] at M13
          clear HAB z7 y7 m7 D12 M12 HB12
          obtain ⟨W13, hW13⟩ : ∃ W13, W13 = World.drew (W12.setCell ⟨b, k * 8 + 7, none⟩ (Value.slice (some ⟨bk, 1, none⟩) (r.kids.length - 1) (ck - 1))) := ⟨_, rfl⟩
          rw [← hW13] at M13 ⊢
          clear hW13
          go_wp2_with fail
          go_meet
          have hsm := HSET.out (⟨{ r with names := r.names.tail, kids := r.kids.tail }, (.slice Ab r.bytes.length cb), (.slice (some ⟨bn, 1, none⟩) (r.names.length - 1) (cn - 1)), (.slice At r.tags.length ct), (.slice (some ⟨bk, 1, none⟩) (r.kids.length - 1) (ck - 1))⟩ : RV) ⟨HSR.out.sm.nm, by have := HSR.out.sm.lens; simp only [List.length_tail]; omega, fun t ht => HSR.out.sm.nms t (List.mem_of_mem_tail ht), HSR.out.sm.kind, ⟨HSR.out.sm.ints.1, HSR.out.sm.ints.2.1, fun z hz => HSR.out.sm.ints.2.2 z (List.mem_of_mem_tail hz)⟩⟩
          exact ⟨ps.set k (⟨{ r with names := r.names.tail, kids := r.kids.tail }, (.slice Ab r.bytes.length cb), (.slice (some ⟨bn, 1, none⟩) (r.names.length - 1) (cn - 1)), (.slice At r.tags.length ct), (.slice (some ⟨bk, 1, none⟩) (r.kids.length - 1) (ck - 1))⟩ : RV), hsm.1, hsm.2, M13⟩
        · exfalso; omega
    · have t3 : (r.kind == 3) = false := by simp [h10]
      have t6 : (r.kind == 6) = false := by simp [h10]
      have t10 : (r.kind == 10) = true := by simp [h10]
      clear h10
      have D4 := HDR.out _ _ S4.out HSA.out
      have x5 := Ext_alloc (.cells #[.int .u8 7] 5) (Ext.refl W4)
      have D5 := D4.ext x5
      have hRr : RuleB (XB w2.heap.size (w.heap.size + 1) (.slice (some ⟨b, 0, none⟩) ps.length cap)) w.heap.size (W4.alloc (.cells #[.int .u8 7] 5)) ⟨r, (.slice Ab r.bytes.length cb), (.slice An r.names.length cn), (.slice At r.tags.length ct), (.slice Ak r.kids.length ck)⟩ := by
        have := D5.each _ (List.getElem_mem hk); rw [HQ.out] at this; exact this
      have ho5 := OwnL.lit (f := vu8) (e := 5) D4.cur.2.1 [7] #[.int .u8 7] rfl 1 rfl (by omega)
      have hg4 := D4.box.lt; have hR4 := D4.res.lt; have hs4 := D4.grow.size
      have hb4 := (World.ownsRow.lt D4.row b rfl).2
      have M7 := Lib.hid (D5.put k 4 hk (by omega) HQ.out (.slice (some ⟨W4.heap.size, 0, none⟩) 1 1) (⟨{ r with bytes := [7] }, .slice (some ⟨W4.heap.size, 0, none⟩) 1 1, (.slice An r.names.length cn), (.slice At r.tags.length ct), (.slice Ak r.kids.length ck)⟩ : RV) rfl ⟨RdB.of_own ho5 (by simp) (fun b' hb' => by
        injection hb' with hb'
        have hb' : W4.heap.size = b' := hb'
        subst hb'
        refine ⟨hs4, ?_⟩
        rintro (e | e | e)
        · omega
        · omega
        · injection e with e; (have e : b = W4.heap.size := e); omega), hRr.n, hRr.t, hRr.k⟩)
      have CK := D5.cellr k 4 hk (by omega) HQ.out
      have z5 : (W4.alloc (.cells #[.int .u8 7] 5)).cell? ⟨b, k * 8 + 4, none⟩ = some (.slice Ab r.bytes.length cb) := CK.1
      have y5 : (W4.alloc (.cells #[.int .u8 7] 5)).frozen? ⟨b, k * 8 + 4, none⟩ = false := CK.2
      have hcm := World.setCell_alloc_past (w := W4) (.cells #[.int .u8 7] 5) b (k * 8 + 4) (.slice (some ⟨W4.heap.size, 0, none⟩) 1 1) (by omega)
      rw [hcm] at M7
      clear D4 D5 hRr ho5 CK x5 hs4 hR4 hcm
      go_wp2_with fail
      go_meet
      have hsm := HSET.out (⟨{ r with bytes := [7] }, .slice (some ⟨W4.heap.size, 0, none⟩) 1 1, (.slice An r.names.length cn), (.slice At r.tags.length ct), (.slice Ak r.kids.length ck)⟩ : RV) ⟨HSR.out.sm.nm, ⟨by simp, HSR.out.sm.lens.2⟩, HSR.out.sm.nms, HSR.out.sm.kind, HSR.out.sm.ints⟩
      exact ⟨ps.set k (⟨{ r with bytes := [7] }, .slice (some ⟨W4.heap.size, 0, none⟩) 1 1, (.slice An r.names.length cn), (.slice At r.tags.length ct), (.slice Ak r.kids.length ck)⟩ : RV), hsm.1, hsm.2, M7⟩
    · have t3 : (r.kind == 3) = false := by simp [h1]
      have t6 : (r.kind == 6) = false := by simp [h1]
      have t10 : (r.kind == 10) = false := by simp [h1]
      have t1 : (r.kind == 1) = true := by simp [h1]
      clear h1
      have q2 : W4.cell? ⟨w3.heap.size, 2, none⟩ = some (.int .i64 r.size) := HRb.out.cell 2
      by_cases hs3 : r.size < 3
      · have d3 : decide (r.size < 3) = true := decide_eq_true hs3
        have hsz := HSR.out.size
        have PT := S4.out.put' k 2 hk (by omega) HQ.out (.int .i64 (r.size + 1)) (⟨{ r with size := r.size + 1 }, (.slice Ab r.bytes.length cb), (.slice An r.names.length cn), (.slice At r.tags.length ct), (.slice Ak r.kids.length ck)⟩ : RV) rfl rfl ⟨rfl, rfl, rfl, rfl⟩
        have z5 : W4.cell? ⟨b, k * 8 + 2, none⟩ = some (.int .i64 r.size) := PT.1.1
        have y5 : W4.frozen? ⟨b, k * 8 + 2, none⟩ = false := PT.1.2
        have M7 := Lib.hid PT.2
        clear PT
        go_wp2_with fail
        go_meet
        have hsm := HSET.out (⟨{ r with size := r.size + 1 }, (.slice Ab r.bytes.length cb), (.slice An r.names.length cn), (.slice At r.tags.length ct), (.slice Ak r.kids.length ck)⟩ : RV) ⟨HSR.out.sm.nm, HSR.out.sm.lens, HSR.out.sm.nms, HSR.out.sm.kind, ⟨by dsimp only; omega, HSR.out.sm.ints.2⟩⟩
        exact ⟨ps.set k (⟨{ r with size := r.size + 1 }, (.slice Ab r.bytes.length cb), (.slice An r.names.length cn), (.slice At r.tags.length ct), (.slice Ak r.kids.length ck)⟩ : RV), hsm.1, hsm.2, HDR.out _ _ M7.out hsm.1⟩
      · have d3 : decide (r.size < 3) = false := decide_eq_false hs3
        go_wp2_with fail
        go_meet
        exact ⟨ps, HSA.out, rfl, HDR.out _ _ S4.out HSA.out⟩
    · have t3 : (r.kind == 3) = false := by simp [n3]
      have t6 : (r.kind == 6) = false := by simp [n6]
      have t10 : (r.kind == 10) = false := by simp [n10]
      have t1 : (r.kind == 1) = false := by simp [n1]
      clear n3 n6 n10 n1
      go_wp2_with fail
      go_meet
      exact ⟨ps, HSA.out, rfl, HDR.out _ _ S4.out HSA.out⟩
  case rest =>
    obtain ⟨ps', HSM, hl', D⟩ := hcut
    clear S3 S4 HRb HW4 HDR HSET HSA HSR HQ HMD hrp cd0 l0 l1 l2 l3 l4 l5 l6 l7 b1 b0 hk
    have cdw : wc.cell? ⟨w2.heap.size, 0, none⟩ = some (Value.slice (some ⟨b, 0, none⟩) ps.length cap) := D.out.box.cell 0
    go_wp2_with fail
    refine (COn.out 4 _ D.out.cur (by omega)).mono ?_; rintro _ w5 ⟨z, rfl, hC5, hg5⟩
    have D5 := Lib.hid (D.out.moved hC5 hg5)
    clear hC5 hg5 D cdw
    dsimp only
    cases z
    · have HLP := Lib.hid hl'
      have FIN := Lib.hid (D5.out.finish hbw)
      have cr0 : w5.cell? ⟨w.heap.size + 1, 0, none⟩ = some (Value.slice none 0 0) := D5.out.res.cell 0
      have yr0 := D5.out.res.free 0
      have cgz : w5.cell? ⟨w2.heap.size, 0, none⟩ = some (Value.slice (some ⟨b, 0, none⟩) ps.length cap) := D5.out.box.cell 0
      have z9 := FIN.out.2.2.2
      clear D5
      go_wp2_with fail
      refine bodyPost_ret (v := .agg #[Value.slice (some ⟨b, 0, none⟩) ps.length cap]) (by simp [results, Try.results39, go_sem, z9]) rfl ?_
      first
        | exact ⟨_, rulesOf ps', rfl, HSM.out, FIN.out.1, FIN.out.2.1, FIN.out.2.2.1⟩
        | exact ⟨_, rfl, rulesOf ps', HSM.out, FIN.out.1, FIN.out.2.1, FIN.out.2.2.1⟩
    · have xa := Ext_alloc (.cells #[.int .i64 ((ps.length : Int) - 1)] 3) (Ext.refl w5)
      have xb := Ext_alloc (.cells #[.string ⟨#[111, 112, 116]⟩, .int .i64 8, .int .i64 0, .bool false, .slice none 0 0, .slice none 0 0, .slice none 0 0, .slice (some ⟨w5.heap.size, 0, none⟩) 1 1] 35) xa
      have Db := Lib.hid (D5.out.ext xb)
      have cg5 : w5.cell? ⟨w2.heap.size, 0, none⟩ = some (Value.slice (some ⟨b, 0, none⟩) ps.length cap) := D5.out.box.cell 0
      have hg5 := D5.out.box.lt; have hR5 := D5.out.res.lt; have hs5 := D5.out.grow.size
      have hb5 := (World.ownsRow.lt D5.out.row b rfl).2
      have HWL : IntKind.i64.wrap ((ps.length : Int) - 1) = (ps.length : Int) - 1 := IntWalk.i64_in _ (by omega)
      have hne : ¬ XB w2.heap.size (w.heap.size + 1) (.slice (some ⟨b, 0, none⟩) ps.length cap) w5.heap.size := by
        rintro (e | e | e)
        · omega
        · omega
        · injection e with e; (have e : b = w5.heap.size := e); omega
      have hRq : Hid (RuleB (XB w2.heap.size (w.heap.size + 1) (.slice (some ⟨b, 0, none⟩) ps.length cap)) w.heap.size ((w5.alloc (.cells #[.int .i64 ((ps.length : Int) - 1)] 3)).alloc (.cells #[.string ⟨#[111, 112, 116]⟩, .int .i64 8, .int .i64 0, .bool false, .slice none 0 0, .slice none 0 0, .slice none 0 0, .slice (some ⟨w5.heap.size, 0, none⟩) 1 1] 35)) (⟨⟨⟨#[111, 112, 116]⟩, 8, 0, false, [], [], [], [(ps.length : Int) - 1]⟩, .slice none 0 0, .slice none 0 0, .slice none 0 0, .slice (some ⟨w5.heap.size, 0, none⟩) 1 1⟩ : RV)) := by
        have ho := OwnL.lit (f := vint) (e := 3) D5.out.cur.2.1 [(ps.length : Int) - 1] #[.int .i64 ((ps.length : Int) - 1)] rfl 1 rfl (by omega)
        refine ⟨⟨none, 0, rfl, by simp, by simp, by simp⟩, ⟨none, 0, rfl, by simp, by simp, by simp⟩, ⟨none, 0, rfl, by simp, by simp, by simp⟩, RdB.of_own (ho.ext (Ext_alloc _ (Ext.refl _))) (by simp) (fun b' hb' => ?_)⟩
        injection hb' with hb'
        have hb' : w5.heap.size = b' := hb'
        subst hb'
        exact ⟨hs5, hne⟩
      have hone : Hid (∀ u ∈ RV.cells (⟨⟨⟨#[111, 112, 116]⟩, 8, 0, false, [], [], [], [(ps.length : Int) - 1]⟩, .slice none 0 0, .slice none 0 0, .slice none 0 0, .slice (some ⟨w5.heap.size, 0, none⟩) 1 1⟩ : RV), u.oneCell' = true) := RV.cells_one _ rfl rfl rfl rfl
      have HMX : Hid (ps'.length + 1 ≤ maxLen ∧ (ps'.length + 1) * 136 ≤ 140737488355328) := ⟨by simp only [maxLen]; omega, by omega⟩
      have HLP := Lib.hid hl'
      have hsz1 : (w5.alloc (.cells #[.int .i64 ((ps.length : Int) - 1)] 3)).heap.size = w5.heap.size + 1 := by simp
      have HA8 : Hid (∀ j u, (RV.cells (⟨⟨⟨#[111, 112, 116]⟩, 8, 0, false, [], [], [], [(ps.length : Int) - 1]⟩, .slice none 0 0, .slice none 0 0, .slice none 0 0, .slice (some ⟨w5.heap.size, 0, none⟩) 1 1⟩ : RV))[j]? = some u → ((w5.alloc (.cells #[.int .i64 ((ps.length : Int) - 1)] 3)).alloc (.cells #[.string ⟨#[111, 112, 116]⟩, .int .i64 8, .int .i64 0, .bool false, .slice none 0 0, .slice none 0 0, .slice none 0 0, .slice (some ⟨w5.heap.size, 0, none⟩) 1 1] 35)).cell? ((⟨w5.heap.size + 1, 0, none⟩ : Addr).add j) = some u) := fun j u hu => by
        have := World.cell?_alloc_at' (w5.alloc (.cells #[.int .i64 ((ps.length : Int) - 1)] 3)) (RV.cells (⟨⟨⟨#[111, 112, 116]⟩, 8, 0, false, [], [], [], [(ps.length : Int) - 1]⟩, .slice none 0 0, .slice none 0 0, .slice none 0 0, .slice (some ⟨w5.heap.size, 0, none⟩) 1 1⟩ : RV)) 35 j
        rw [hsz1] at this
        exact this.trans hu
      clear xa xb hne hsz1 hl'
      go_wp2_with (at_builtin; refine wpList_app_any rfl (.tmp 108) (.tmp 115) _ rfl E_rule wb _ (Value.slice (some ⟨b, 0, none⟩) ps.length cap) ps'.length (ps'.flatMap RV.cells) rfl Db.out.row Db.out.cur.2.1 (RV.cells (⟨⟨⟨#[111, 112, 116]⟩, 8, 0, false, [], [], [], [(ps.length : Int) - 1]⟩, .slice none 0 0, .slice none 0 0, .slice none 0 0, .slice (some ⟨w5.heap.size, 0, none⟩) 1 1⟩ : RV)) (some ⟨w5.heap.size + 1, 0, none⟩) 1 1 rfl rfl (fun _ => ⟨_, rfl, HA8.out⟩) hone.out HMX.out.1 HMX.out.2 ?_; intro v7 w7 ho7 he7 hv7 hg7; obtain ⟨⟨z7, y7⟩, M7⟩ := Db.out.snoc hRq.out (by have := HLP.out; omega) ho7 he7 hg7 hv7; obtain ⟨A7, c7, hsh⟩ := M7.shape; replace hsh : v7 = .slice A7 (ps'.length + 1) c7 := (by rw [hsh, List.length_append]; rfl); subst hsh; clear ho7 he7 hg7 hv7; have cr0 : (w7.setCell ⟨w2.heap.size, 0, none⟩ (.slice A7 (ps'.length + 1) c7)).cell? ⟨w.heap.size + 1, 0, none⟩ = some (Value.slice none 0 0) := M7.res.cell 0; have yr0 := M7.res.free 0; have cgz : (w7.setCell ⟨w2.heap.size, 0, none⟩ (.slice A7 (ps'.length + 1) c7)).cell? ⟨w2.heap.size, 0, none⟩ = some (Value.slice A7 (ps'.length + 1) c7) := M7.box.cell 0; have z9 := (M7.finish hbw).2.2.2; have M7 := Lib.hid M7)
      have HS2 : Hid (SmD (rulesOf (ps' ++ [(⟨⟨⟨#[111, 112, 116]⟩, 8, 0, false, [], [], [], [(ps.length : Int) - 1]⟩, .slice none 0 0, .slice none 0 0, .slice none 0 0, .slice (some ⟨w5.heap.size, 0, none⟩) 1 1⟩ : RV)]))) := by
        refine ⟨by have := HLP.out; simp [rulesOf]; omega, fun r hr => ?_⟩
        simp only [rulesOf, List.map_append, List.mem_append, List.map_cons, List.map_nil, List.mem_singleton] at hr
        rcases hr with h1 | rfl
        · exact HSM.out.2 r h1
        · exact ⟨(by decide : (⟨#[111, 112, 116]⟩ : ByteArray).size ≤ 60), by simp, by simp, (by decide : (-100 : Int) ≤ 8 ∧ (8 : Int) ≤ 100), by simp, by simp, by simp; omega⟩
      clear Db hRq hone HMX HA8 D5 cg5 z7 y7
      have FIN := Lib.hid (M7.out.finish hbw)
      clear M7
      refine bodyPost_ret (v := .agg #[Value.slice A7 (ps'.length + 1) c7]) (by simp [results, Try.results39, go_sem, z9]) rfl ?_
      first
        | exact ⟨_, rulesOf (ps' ++ [(⟨⟨⟨#[111, 112, 116]⟩, 8, 0, false, [], [], [], [(ps.length : Int) - 1]⟩, .slice none 0 0, .slice none 0 0, .slice none 0 0, .slice (some ⟨w5.heap.size, 0, none⟩) 1 1⟩ : RV)]), rfl, HS2.out, FIN.out.1, FIN.out.2.1, FIN.out.2.2.1⟩
        | exact ⟨_, rfl, rulesOf (ps' ++ [(⟨⟨⟨#[111, 112, 116]⟩, 8, 0, false, [], [], [], [(ps.length : Int) - 1]⟩, .slice none 0 0, .slice none 0 0, .slice none 0 0, .slice (some ⟨w5.heap.size, 0, none⟩) 1 1⟩ : RV)]), HS2.out, FIN.out.1, FIN.out.2.1, FIN.out.2.2.1⟩
end Go.Proofs.Ytophjmphjdhjoaa
