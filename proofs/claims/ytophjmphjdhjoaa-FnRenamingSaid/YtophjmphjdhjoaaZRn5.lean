/- Draws of descriptions: DrawFindRule, DrawRenameRule. (Printed by gen/gx26.py.) -/
import Derived.Test.YtophjmphjdhjoaaZRn4
set_option linter.unusedVariables false
set_option linter.unusedSimpArgs false
namespace Go.Proofs.Ytophjmphjdhjoaa
open Go.RowKit Go.Sort

theorem Cur.lower' {wb0 wb w : World} {p : Nat} {A : Option Addr} {l : List UInt8} {c : Nat} (h : Cur wb w p A l c) (e : Ext wb0 wb) : Cur wb0 w p A l c := ⟨Nat.le_trans e.size h.1, e.trans h.2.1, h.2.2⟩
theorem SmD.len {ps : List RV} (h : SmD (rulesOf ps)) : ps.length ≤ 24 := by have := h.1; simpa [rulesOf] using this
/-- the names in a row of rules -/
theorem OwnD.nmAt {w0 w : World} {b n c : Nat} {ps : List RV} (h : OwnD w0 w (.slice (some ⟨b, 0, none⟩) n c) ps) : ∀ x (hx : x < ps.length), w.cell? ⟨b, x * 8, none⟩ = some (.string ps[x].r.nm) := by
  intro x hx
  have hn : n = ps.length := by obtain ⟨_, _, hh⟩ := h.shape; injection hh
  subst hn
  have h0 := h.row.cellAt (x * 8 + 0) (by omega)
  rw [Nat.add_zero] at h0
  rw [h0]
  have := cells_get ps x 0 hx (by omega)
  rw [Nat.add_zero] at this
  rw [this]; simp [RV.cells]
set_option maxRecDepth 100000 in
set_option maxHeartbeats 8000000 in
theorem drawFind_c (A : Option Addr) (l : List UInt8) (c : Nat) (w : World) (hA : Bs w A l c) :
    Calls Try.prog 25 #[.slice A l.length c] w fun e w' => ∃ v ps s, e = .returned (.tuple #[vdesc v, .string s]) ∧ AnyV w w w' v ps ∧ ps.length ≤ 6 ∧ s.size ≤ 60 ∧ Ext w w' := by
  have e0 := Ext_alloc (.cells #[.slice none 0 0] 26) (Ext.refl w)
  have HR := Lib.hid (Box.new w #[.slice none 0 0] 26)
  go_enter Try.func25, Try.ntmps25
  go_wp2_with fail
  refine (l1New_c A l c _ (hA.ext e0)).mono ?_; rintro _ w1 ⟨p, rfl, hC1⟩
  have hR1 := HR.out.ext hC1.2.1
  have hpR : p ≠ w.heap.size := by have := hC1.1; simp at this; omega
  have e1 : Ext w w1 := e0.trans hC1.2.1
  have hC1 := hC1.lower' e0
  have CAny := Lib.hid (l4Any_c w w1 p A l c hA hC1)
  have CBe := Lib.hid (fun n w' h hn => l1Below_c n w w' p A l c hA h hn)
  have COn := Lib.hid (fun n w' h hn => l1Once_c n w w' p A l c hA h hn)
  unfold vdesc at CAny
  go_wp2_with fail
  refine CAny.out.mono ?_; rintro _ w2 ⟨v, ps, rfl, hV, hps6, hC2, hg2⟩
  obtain ⟨Ad, cd, hv⟩ := hV.own.shape
  subst hv
  have hR2 := hR1.moved hg2 (some_ne hpR)
  have hRl := hR1.lt; have hpl := hC1.lt; have hpl2 := hC2.lt; have hRl2 := hR2.lt
  have x2 := Ext_alloc (.cells #[.slice Ad ps.length cd] 26) (Ext.refl w2)
  have S2 : Hid (DS w w (w2.alloc (.cells #[.slice Ad ps.length cd] 26)) p A l c w2.heap.size (.slice Ad ps.length cd) ps w.heap.size) :=
    ⟨Box.new w2 _ _, hV.own.ext x2, fun u hu b hb => by
      have h1 := hV.new u hu b hb
      have h2 := (hV.own.block u hu b hb).2
      exact ⟨by omega, by omega, by omega, by omega⟩, hC2.ext x2, ((grown_ext e1 _).trans hg2).trans (grown_ext x2 _), by omega, by omega, by omega, hR2.ext x2, by omega, hpR⟩
  have HSM := Lib.hid hV.small
  have cd0 : _ = some (Value.slice Ad ps.length cd) := S2.out.box.cell 0
  have hwp : w.heap.size ≤ p := hC1.1
  clear hV hC2 hg2 hR2 hR1 HR e0 e1 x2 CAny hC1
  have bgt : decide ((0 : Int) < (ps.length : Int)) = decide (0 < ps.length) := by congr 1; apply propext; omega
  by_cases hp0 : 0 < ps.length
  · obtain ⟨b, hAd⟩ : ∃ b, Ad = some ⟨b, 0, none⟩ := by
      rcases S2.out.own.row.2 with ⟨_, h0⟩ | ⟨b, cap, cur, hv, _⟩
      · omega
      · injection hv with q1 _ _; exact ⟨b, q1⟩
    subst hAd
    have d0 : decide ((0 : Int) < (ps.length : Int)) = true := decide_eq_true (by omega)
    have d1 : decide (0 < ps.length) = true := decide_eq_true hp0
    clear bgt
    go_wp2_with fail
    refine (COn.out 2 _ S2.out.cur (by omega)).mono ?_; rintro _ w3 ⟨z, rfl, hC3, hg3⟩
    have S3 := Lib.hid (S2.out.moved hC3 hg3)
    have cd3 : _ = some (Value.slice (some ⟨b, 0, none⟩) ps.length cd) := S3.out.box.cell 0
    clear hC3 hg3 S2 cd0
    cases z
    · go_wp2_with fail
      have SX := Lib.hid (S3.out.ext (Ext_drew (Ext.refl w3)))
      have HAB : lv2 (fun w' => w'.cell? ⟨w2.heap.size, 0, none⟩ = some (Value.slice (some ⟨b, 0, none⟩) ps.length cd)) (fun _ => True) 2 w3.drew := ⟨SX.out.box.cell 0, trivial⟩
      refine wp_region_C (C := fun j => lv2 (fun w' => w'.cell? ⟨w2.heap.size, 0, none⟩ = some (Value.slice (some ⟨b, 0, none⟩) ps.length cd)) (fun _ => True) (([1, 0, 2, 2, 0, 0] : List Nat).getD j 0)) (by kernel_rfl) ?_
      refine wpAnyC_take 0 (i := 1) (v := ?_) (lv2_mono _ _) rfl (by kernel_rfl) (by kernel_rfl) (by kernel_rfl) (by kernel_rfl) (by kernel_rfl) (fun _ _ _ h => h) trivial (Or.inl ⟨by rfl, ?_⟩) ?_
      rotate_left
      · (intro w hSw; clear hSw; go_simp; try with_reducible rfl)
      try simp only [Act.put, List.setIfInBounds_toArray, List.set_cons_zero, List.set_cons_succ]
      refine wpAnyC_take 1 (i := 0) (v := ?_) (lv2_mono _ _) rfl (by kernel_rfl) (by kernel_rfl) (by kernel_rfl) (by kernel_rfl) (by kernel_rfl) (fun _ _ _ h => h) (And.left HAB) (Or.inl ⟨by rfl, ?_⟩) ?_
      rotate_left
      · (intro w hSw; have hfact : w.cell? ⟨w2.heap.size, 0, none⟩ = some (Value.slice (some ⟨b, 0, none⟩) ps.length cd) := hSw; clear hSw; go_simp; try with_reducible rfl)
      try simp only [Act.put, List.setIfInBounds_toArray, List.set_cons_zero, List.set_cons_succ]
      refine wpAnyC_one (i := 2) (by kernel_rfl) rfl (fun K hK => ?_)
      go_simp
      have SL := Lib.hid (SX.out.ext (Ext_alloc (.cells #[.string ⟨#[]⟩, .string ⟨#[97, 48]⟩, .string ⟨#[105, 116, 101, 109, 49]⟩, .string ⟨#[110, 111, 110, 101]⟩] 9) (Ext.refl _)))
      refine Shut.out hK _ _ ⟨SL.out.box.cell 0, trivial⟩ ?_
      try simp only [Act.put, List.setIfInBounds_toArray, List.set_cons_zero, List.set_cons_succ]
      refine wpAnyC_one (i := 3) (by kernel_rfl) rfl (fun K hK => ?_)
      go_simp
      go_at_call 26
      refine (l1StrBox_c [⟨#[]⟩, ⟨#[97, 48]⟩, ⟨#[105, 116, 101, 109, 49]⟩, ⟨#[110, 111, 110, 101]⟩] (by simp) (by simp) 4 rfl #[.string ⟨#[]⟩, .string ⟨#[97, 48]⟩, .string ⟨#[105, 116, 101, 109, 49]⟩, .string ⟨#[110, 111, 110, 101]⟩] rfl w _ p A l c hA _ SL.out.cur (by first | (refine Box.newd' _ _ _ _ ?_; first | rfl | (simp; done)) | (refine Box.new' _ _ _ _ ?_; first | rfl | (simp; done)))).mono ?_
      rintro _ w5 ⟨s, hs, rfl, hC5, hg5⟩
      have S5 := Lib.hid (DS.moved SL.out hC5 hg5)
      have hs60 : Hid (s.size ≤ 60) := by show _ ≤ _; simp only [List.mem_cons, List.not_mem_nil, or_false] at hs; rcases hs with rfl | rfl | rfl | rfl <;> decide
      clear hs hC5 hg5
      have cr5 : _ = some (Value.slice none 0 0) := S5.out.res.cell 0
      have yr5 := S5.out.res.free 0
      refine Shut.out hK _ _ ⟨S5.out.box.cell 0, trivial⟩ ?_
      try simp only [Act.put, List.setIfInBounds_toArray, List.set_cons_zero, List.set_cons_succ]
      refine wpAnyC_one (i := 4) (by kernel_rfl) rfl (fun K hK => ?_)
      go_simp
      refine Shut.out hK _ _ trivial ?_
      try simp only [Act.put, List.setIfInBounds_toArray, List.set_cons_zero, List.set_cons_succ]
      refine wpAnyC_one (i := 5) (by kernel_rfl) rfl (fun K hK => ?_)
      go_simp
      refine Shut.out hK _ _ trivial ?_
      try simp only [Act.put, List.setIfInBounds_toArray, List.set_cons_zero, List.set_cons_succ]
      refine wpAnyC_done (by kernel_rfl) ?_ _
      obtain ⟨ps0, hps0⟩ : ∃ ps0, ps0 = ps := ⟨_, rfl⟩
      have OUT : Hid (OwnD w (w5.setCell ⟨w.heap.size, 0, none⟩ (Value.slice (some ⟨b, 0, none⟩) ps.length cd)) (Value.slice (some ⟨b, 0, none⟩) ps.length cd) ps0 ∧ (∀ u ∈ (Value.slice (some ⟨b, 0, none⟩) ps.length cd) :: ps0.flatMap RV.vals, ∀ b, u.ownBlock = some b → w.heap.size ≤ b) ∧ Cur w (w5.setCell ⟨w.heap.size, 0, none⟩ (Value.slice (some ⟨b, 0, none⟩) ps.length cd)) p A l c ∧ w.grownBy (w5.setCell ⟨w.heap.size, 0, none⟩ (Value.slice (some ⟨b, 0, none⟩) ps.length cd)) (some p)) := by rw [hps0]; exact DS.finish S5.out (Nat.le_refl _)
      have z9 : (w5.setCell ⟨w.heap.size, 0, none⟩ (Value.slice (some ⟨b, 0, none⟩) ps.length cd)).cell? ⟨w.heap.size, 0, none⟩ = some (Value.slice (some ⟨b, 0, none⟩) ps.length cd) := World.cell?_setCell_same _ _ _ cr5
      rw [← hps0] at HSM
      have HP6 : Hid (ps0.length ≤ 6) := by show _ ≤ _; rw [hps0]; first | exact hps6 | simp
      clear SL S5 SX HAB S3 cd3 cr5 yr5
      have HEX : Hid (Ext w (w5.setCell ⟨w.heap.size, 0, none⟩ (Value.slice (some ⟨b, 0, none⟩) ps.length cd))) := Ext.grown (Ext.refl w) OUT.out.2.2.2 (fun k hk => by injection hk with hk; omega)
      go_wp2_with fail
      refine bodyPost_ret (v := .tuple #[vdesc (Value.slice (some ⟨b, 0, none⟩) ps.length cd), .string s]) (by simp [results, Try.results25, go_sem, z9, vdesc]) rfl ?_
      first
        | exact ⟨_, ps0, s, rfl, ⟨HSM.out, OUT.out.1, OUT.out.2.1⟩, HP6.out, hs60.out, HEX.out⟩
        | exact ⟨_, rfl, ps0, s, ⟨HSM.out, OUT.out.1, OUT.out.2.1⟩, HP6.out, hs60.out, HEX.out⟩
        | exact ⟨_, ps0, ⟨_, rfl, ⟨HSM.out, OUT.out.1, OUT.out.2.1⟩, HP6.out, hs60.out, HEX.out⟩⟩
    · have SX := Lib.hid (S3.out.ext (Ext_drew (Ext.refl w3)))
      have HNM : Hid (∀ w', DS w w w' p A l c w2.heap.size (.slice (some ⟨b, 0, none⟩) ps.length cd) ps w.heap.size → ∀ x (hx : x < ps.length), w'.cell? ⟨b, x * 8, none⟩ = some (.string ps[x].r.nm)) := fun w' h => h.own.nmAt
      go_wp2_with fail
      have HAB : lv2 (fun w' => w'.cell? ⟨w2.heap.size, 0, none⟩ = some (Value.slice (some ⟨b, 0, none⟩) ps.length cd)) (fun w' => ∀ x (hx : x < ps.length), w'.cell? ⟨b, x * 8, none⟩ = some (.string ps[x].r.nm)) 2 w3.drew := ⟨SX.out.box.cell 0, HNM.out _ SX.out⟩
      refine wp_region_C (C := fun j => lv2 (fun w' => w'.cell? ⟨w2.heap.size, 0, none⟩ = some (Value.slice (some ⟨b, 0, none⟩) ps.length cd)) (fun w' => ∀ x (hx : x < ps.length), w'.cell? ⟨b, x * 8, none⟩ = some (.string ps[x].r.nm)) (([1, 0, 1, 0, 0, 1, 0, 2, 2, 2, 2, 2, 0] : List Nat).getD j 0)) (by kernel_rfl) ?_
      refine wpAnyC_take 0 (i := 1) (v := ?_) (lv2_mono _ _) rfl (by kernel_rfl) (by kernel_rfl) (by kernel_rfl) (by kernel_rfl) (by kernel_rfl) (fun _ _ _ h => h) trivial (Or.inl ⟨by rfl, ?_⟩) ?_
      rotate_left
      · (intro w hSw; clear hSw; go_simp; try with_reducible rfl)
      try simp only [Act.put, List.setIfInBounds_toArray, List.set_cons_zero, List.set_cons_succ]
      refine wpAnyC_take 0 (i := 3) (v := ?_) (lv2_mono _ _) rfl (by kernel_rfl) (by kernel_rfl) (by kernel_rfl) (by kernel_rfl) (by kernel_rfl) (fun _ _ _ h => h) trivial (Or.inl ⟨by rfl, ?_⟩) ?_
      rotate_left
      · (intro w hSw; clear hSw; go_simp; try with_reducible rfl)
      try simp only [Act.put, List.setIfInBounds_toArray, List.set_cons_zero, List.set_cons_succ]
      refine wpAnyC_take 0 (i := 4) (v := ?_) (lv2_mono _ _) rfl (by kernel_rfl) (by kernel_rfl) (by kernel_rfl) (by kernel_rfl) (by kernel_rfl) (fun _ _ _ h => h) trivial (Or.inl ⟨by rfl, ?_⟩) ?_
      rotate_left
      · (intro w hSw; clear hSw; go_simp; try with_reducible rfl)
      try simp only [Act.put, List.setIfInBounds_toArray, List.set_cons_zero, List.set_cons_succ]
      refine wpAnyC_take 1 (i := 5) (v := ?_) (lv2_mono _ _) rfl (by kernel_rfl) (by kernel_rfl) (by kernel_rfl) (by kernel_rfl) (by kernel_rfl) (fun _ _ _ h => h) (And.left HAB) (Or.inl ⟨by rfl, ?_⟩) ?_
      rotate_left
      · (intro w hSw; have hfact : w.cell? ⟨w2.heap.size, 0, none⟩ = some (Value.slice (some ⟨b, 0, none⟩) ps.length cd) := hSw; clear hSw; go_simp; try with_reducible rfl)
      try simp only [Act.put, List.setIfInBounds_toArray, List.set_cons_zero, List.set_cons_succ]
      refine wpAnyC_take 0 (i := 6) (v := ?_) (lv2_mono _ _) rfl (by kernel_rfl) (by kernel_rfl) (by kernel_rfl) (by kernel_rfl) (by kernel_rfl) (fun _ _ _ h => h) trivial (Or.inl ⟨by rfl, ?_⟩) ?_
      rotate_left
      · (intro w hSw; clear hSw; go_simp; try with_reducible rfl)
      try simp only [Act.put, List.setIfInBounds_toArray, List.set_cons_zero, List.set_cons_succ]
      refine wpAnyC_take 1 (i := 0) (v := ?_) (lv2_mono _ _) rfl (by kernel_rfl) (by kernel_rfl) (by kernel_rfl) (by kernel_rfl) (by kernel_rfl) (fun _ _ _ h => h) (And.left HAB) (Or.inl ⟨by rfl, ?_⟩) ?_
      rotate_left
      · (intro w hSw; have hfact : w.cell? ⟨w2.heap.size, 0, none⟩ = some (Value.slice (some ⟨b, 0, none⟩) ps.length cd) := hSw; clear hSw; go_simp; try with_reducible rfl)
      try simp only [Act.put, List.setIfInBounds_toArray, List.set_cons_zero, List.set_cons_succ]
      refine wpAnyC_take 1 (i := 2) (v := ?_) (lv2_mono _ _) rfl (by kernel_rfl) (by kernel_rfl) (by kernel_rfl) (by kernel_rfl) (by kernel_rfl) (fun _ _ _ h => h) (And.left HAB) (Or.inl ⟨by rfl, ?_⟩) ?_
      rotate_left
      · (intro w hSw; have hfact : w.cell? ⟨w2.heap.size, 0, none⟩ = some (Value.slice (some ⟨b, 0, none⟩) ps.length cd) := hSw; clear hSw; go_simp; try with_reducible rfl)
      try simp only [Act.put, List.setIfInBounds_toArray, List.set_cons_zero, List.set_cons_succ]
      refine wpAnyC_one (i := 7) (by kernel_rfl) rfl (fun K hK => ?_)
      go_simp
      go_at_call 20
      refine (CBe.out ps.length _ SX.out.cur (by omega)).mono ?_
      rintro _ w5 ⟨x, hx0, rfl, hC5, hg5⟩
      have hx : x < ps.length := by unfold below at hx0; rw [if_neg (by omega)] at hx0; omega
      have S5 := Lib.hid (DS.moved SX.out hC5 hg5)
      clear hx0 hC5 hg5
      have cr5 : _ = some (Value.slice none 0 0) := S5.out.res.cell 0
      have yr5 := S5.out.res.free 0
      have b0 : (0 : Int) ≤ (x : Int) := by omega
      have b1 : (x : Int) < (ps.length : Int) := by omega
      have L5 : lv2 (fun w' => w'.cell? ⟨w2.heap.size, 0, none⟩ = some (Value.slice (some ⟨b, 0, none⟩) ps.length cd)) (fun w' => ∀ x (hx : x < ps.length), w'.cell? ⟨b, x * 8, none⟩ = some (.string ps[x].r.nm)) 2 w5 := ⟨S5.out.box.cell 0, HNM.out _ S5.out⟩
      refine Shut.out hK _ _ L5 ?_
      try simp only [Act.put, List.setIfInBounds_toArray, List.set_cons_zero, List.set_cons_succ]
      refine wpAnyC_take 2 (i := 8) (v := ?_) (lv2_mono _ _) rfl (by kernel_rfl) (by kernel_rfl) (by kernel_rfl) (by kernel_rfl) (by kernel_rfl) (fun _ _ _ h => h) (L5) (Or.inl ⟨by rfl, ?_⟩) ?_
      rotate_left
      · (intro w hSw; clear hSw; go_simp; try with_reducible rfl)
      try simp only [Act.put, List.setIfInBounds_toArray, List.set_cons_zero, List.set_cons_succ]
      refine wpAnyC_take 2 (i := 9) (v := ?_) (lv2_mono _ _) rfl (by kernel_rfl) (by kernel_rfl) (by kernel_rfl) (by kernel_rfl) (by kernel_rfl) (fun _ _ _ h => h) (L5) (Or.inl ⟨by rfl, ?_⟩) ?_
      rotate_left
      · (intro w hSw; clear hSw; go_simp; try with_reducible rfl)
      try simp only [Act.put, List.setIfInBounds_toArray, List.set_cons_zero, List.set_cons_succ]
      refine wpAnyC_take 2 (i := 10) (v := ?_) (lv2_mono _ _) rfl (by kernel_rfl) (by kernel_rfl) (by kernel_rfl) (by kernel_rfl) (by kernel_rfl) (fun _ _ _ h => h) (L5) (Or.inl ⟨by rfl, ?_⟩) ?_
      rotate_left
      · (intro w hSw; have hfact := hSw.2 x hx; clear hSw; go_simp; try with_reducible rfl)
      try simp only [Act.put, List.setIfInBounds_toArray, List.set_cons_zero, List.set_cons_succ]
      refine wpAnyC_one (i := 11) (by kernel_rfl) rfl (fun K hK => ?_)
      go_simp
      have L6 : lv2 (fun w' => w'.cell? ⟨w2.heap.size, 0, none⟩ = some (Value.slice (some ⟨b, 0, none⟩) ps.length cd)) (fun w' => ∀ x (hx : x < ps.length), w'.cell? ⟨b, x * 8, none⟩ = some (.string ps[x].r.nm)) 2 (w5.setCell ⟨w.heap.size, 0, none⟩ (Value.slice (some ⟨b, 0, none⟩) ps.length cd)) := ⟨(S5.out.box.other S5.out.gR _ _).cell 0, fun y hy => by
        have hb := (S5.out.new _ (List.mem_cons_self ..) b rfl).2.2.2
        rw [World.cell?_setCell_other _ _ _ _ (fun hh => hb (by injection hh with h1 _ _; exact h1.symm))]
        exact HNM.out _ S5.out y hy⟩
      refine Shut.out hK _ _ L6 ?_
      try simp only [Act.put, List.setIfInBounds_toArray, List.set_cons_zero, List.set_cons_succ]
      refine wpAnyC_one (i := 12) (by kernel_rfl) rfl (fun K hK => ?_)
      go_simp
      refine Shut.out hK _ _ trivial ?_
      try simp only [Act.put, List.setIfInBounds_toArray, List.set_cons_zero, List.set_cons_succ]
      refine wpAnyC_done (by kernel_rfl) ?_ _
      have hs60 : Hid (ps[x].r.nm.size ≤ 60) := (HSM.out.2 _ (List.mem_map_of_mem (List.getElem_mem hx))).nm
      generalize ps[x].r.nm = s at *
      obtain ⟨ps0, hps0⟩ : ∃ ps0, ps0 = ps := ⟨_, rfl⟩
      have OUT : Hid (OwnD w (w5.setCell ⟨w.heap.size, 0, none⟩ (Value.slice (some ⟨b, 0, none⟩) ps.length cd)) (Value.slice (some ⟨b, 0, none⟩) ps.length cd) ps0 ∧ (∀ u ∈ (Value.slice (some ⟨b, 0, none⟩) ps.length cd) :: ps0.flatMap RV.vals, ∀ b, u.ownBlock = some b → w.heap.size ≤ b) ∧ Cur w (w5.setCell ⟨w.heap.size, 0, none⟩ (Value.slice (some ⟨b, 0, none⟩) ps.length cd)) p A l c ∧ w.grownBy (w5.setCell ⟨w.heap.size, 0, none⟩ (Value.slice (some ⟨b, 0, none⟩) ps.length cd)) (some p)) := by rw [hps0]; exact DS.finish S5.out (Nat.le_refl _)
      have z9 : (w5.setCell ⟨w.heap.size, 0, none⟩ (Value.slice (some ⟨b, 0, none⟩) ps.length cd)).cell? ⟨w.heap.size, 0, none⟩ = some (Value.slice (some ⟨b, 0, none⟩) ps.length cd) := World.cell?_setCell_same _ _ _ cr5
      rw [← hps0] at HSM
      have HP6 : Hid (ps0.length ≤ 6) := by show _ ≤ _; rw [hps0]; exact hps6
      clear S5 SX HAB S3 cd3 cr5 yr5 HNM L5 L6
      have HEX : Hid (Ext w (w5.setCell ⟨w.heap.size, 0, none⟩ (Value.slice (some ⟨b, 0, none⟩) ps.length cd))) := Ext.grown (Ext.refl w) OUT.out.2.2.2 (fun k hk => by injection hk with hk; omega)
      go_wp2_with fail
      refine bodyPost_ret (v := .tuple #[vdesc (Value.slice (some ⟨b, 0, none⟩) ps.length cd), .string s]) (by simp [results, Try.results25, go_sem, z9, vdesc]) rfl ?_
      first
        | exact ⟨_, ps0, s, rfl, ⟨HSM.out, OUT.out.1, OUT.out.2.1⟩, HP6.out, hs60.out, HEX.out⟩
        | exact ⟨_, rfl, ps0, s, ⟨HSM.out, OUT.out.1, OUT.out.2.1⟩, HP6.out, hs60.out, HEX.out⟩
        | exact ⟨_, ps0, ⟨_, rfl, ⟨HSM.out, OUT.out.1, OUT.out.2.1⟩, HP6.out, hs60.out, HEX.out⟩⟩
  · obtain rfl : ps = [] := List.eq_nil_of_length_eq_zero (by omega)
    have d0 : decide ((0 : Int) < 0) = false := by decide
    have S3 := S2
    have cd3 := cd0
    clear bgt
    go_wp2_with fail
    have SX := Lib.hid (S3.out.ext (Ext_drew (Ext.refl (w2.alloc (.cells #[.slice Ad 0 cd] 26)))))
    have HAB : lv2 (fun w' => w'.cell? ⟨w2.heap.size, 0, none⟩ = some (Value.slice Ad 0 cd)) (fun _ => True) 2 (w2.alloc (.cells #[.slice Ad 0 cd] 26)).drew := ⟨SX.out.box.cell 0, trivial⟩
    refine wp_region_C (C := fun j => lv2 (fun w' => w'.cell? ⟨w2.heap.size, 0, none⟩ = some (Value.slice Ad 0 cd)) (fun _ => True) (([1, 0, 2, 2, 0, 0] : List Nat).getD j 0)) (by kernel_rfl) ?_
    refine wpAnyC_take 0 (i := 1) (v := ?_) (lv2_mono _ _) rfl (by kernel_rfl) (by kernel_rfl) (by kernel_rfl) (by kernel_rfl) (by kernel_rfl) (fun _ _ _ h => h) trivial (Or.inl ⟨by rfl, ?_⟩) ?_
    rotate_left
    · (intro w hSw; clear hSw; go_simp; try with_reducible rfl)
    try simp only [Act.put, List.setIfInBounds_toArray, List.set_cons_zero, List.set_cons_succ]
    refine wpAnyC_take 1 (i := 0) (v := ?_) (lv2_mono _ _) rfl (by kernel_rfl) (by kernel_rfl) (by kernel_rfl) (by kernel_rfl) (by kernel_rfl) (fun _ _ _ h => h) (And.left HAB) (Or.inl ⟨by rfl, ?_⟩) ?_
    rotate_left
    · (intro w hSw; have hfact : w.cell? ⟨w2.heap.size, 0, none⟩ = some (Value.slice Ad 0 cd) := hSw; clear hSw; go_simp; try with_reducible rfl)
    try simp only [Act.put, List.setIfInBounds_toArray, List.set_cons_zero, List.set_cons_succ]
    refine wpAnyC_one (i := 2) (by kernel_rfl) rfl (fun K hK => ?_)
    go_simp
    have SL := Lib.hid (SX.out.ext (Ext_alloc (.cells #[.string ⟨#[]⟩, .string ⟨#[97, 48]⟩, .string ⟨#[105, 116, 101, 109, 49]⟩, .string ⟨#[110, 111, 110, 101]⟩] 9) (Ext.refl _)))
    refine Shut.out hK _ _ ⟨SL.out.box.cell 0, trivial⟩ ?_
    try simp only [Act.put, List.setIfInBounds_toArray, List.set_cons_zero, List.set_cons_succ]
    refine wpAnyC_one (i := 3) (by kernel_rfl) rfl (fun K hK => ?_)
    go_simp
    go_at_call 26
    refine (l1StrBox_c [⟨#[]⟩, ⟨#[97, 48]⟩, ⟨#[105, 116, 101, 109, 49]⟩, ⟨#[110, 111, 110, 101]⟩] (by simp) (by simp) 4 rfl #[.string ⟨#[]⟩, .string ⟨#[97, 48]⟩, .string ⟨#[105, 116, 101, 109, 49]⟩, .string ⟨#[110, 111, 110, 101]⟩] rfl w _ p A l c hA _ SL.out.cur (by first | (refine Box.newd' _ _ _ _ ?_; first | rfl | (simp; done)) | (refine Box.new' _ _ _ _ ?_; first | rfl | (simp; done)))).mono ?_
    rintro _ w5 ⟨s, hs, rfl, hC5, hg5⟩
    have S5 := Lib.hid (DS.moved SL.out hC5 hg5)
    have hs60 : Hid (s.size ≤ 60) := by show _ ≤ _; simp only [List.mem_cons, List.not_mem_nil, or_false] at hs; rcases hs with rfl | rfl | rfl | rfl <;> decide
    clear hs hC5 hg5
    have cr5 : _ = some (Value.slice none 0 0) := S5.out.res.cell 0
    have yr5 := S5.out.res.free 0
    refine Shut.out hK _ _ ⟨S5.out.box.cell 0, trivial⟩ ?_
    try simp only [Act.put, List.setIfInBounds_toArray, List.set_cons_zero, List.set_cons_succ]
    refine wpAnyC_one (i := 4) (by kernel_rfl) rfl (fun K hK => ?_)
    go_simp
    refine Shut.out hK _ _ trivial ?_
    try simp only [Act.put, List.setIfInBounds_toArray, List.set_cons_zero, List.set_cons_succ]
    refine wpAnyC_one (i := 5) (by kernel_rfl) rfl (fun K hK => ?_)
    go_simp
    refine Shut.out hK _ _ trivial ?_
    try simp only [Act.put, List.setIfInBounds_toArray, List.set_cons_zero, List.set_cons_succ]
    refine wpAnyC_done (by kernel_rfl) ?_ _
    obtain ⟨ps0, hps0⟩ : ∃ ps0, ps0 = [] := ⟨_, rfl⟩
    have OUT : Hid (OwnD w (w5.setCell ⟨w.heap.size, 0, none⟩ (Value.slice Ad 0 cd)) (Value.slice Ad 0 cd) ps0 ∧ (∀ u ∈ (Value.slice Ad 0 cd) :: ps0.flatMap RV.vals, ∀ b, u.ownBlock = some b → w.heap.size ≤ b) ∧ Cur w (w5.setCell ⟨w.heap.size, 0, none⟩ (Value.slice Ad 0 cd)) p A l c ∧ w.grownBy (w5.setCell ⟨w.heap.size, 0, none⟩ (Value.slice Ad 0 cd)) (some p)) := by rw [hps0]; exact DS.finish S5.out (Nat.le_refl _)
    have z9 : (w5.setCell ⟨w.heap.size, 0, none⟩ (Value.slice Ad 0 cd)).cell? ⟨w.heap.size, 0, none⟩ = some (Value.slice Ad 0 cd) := World.cell?_setCell_same _ _ _ cr5
    rw [← hps0] at HSM
    have HP6 : Hid (ps0.length ≤ 6) := by show _ ≤ _; rw [hps0]; first | exact hps6 | simp
    clear SL S5 SX HAB S3 cd3 cr5 yr5
    have HEX : Hid (Ext w (w5.setCell ⟨w.heap.size, 0, none⟩ (Value.slice Ad 0 cd))) := Ext.grown (Ext.refl w) OUT.out.2.2.2 (fun k hk => by injection hk with hk; omega)
    go_wp2_with fail
    refine bodyPost_ret (v := .tuple #[vdesc (Value.slice Ad 0 cd), .string s]) (by simp [results, Try.results25, go_sem, z9, vdesc]) rfl ?_
    first
      | exact ⟨_, ps0, s, rfl, ⟨HSM.out, OUT.out.1, OUT.out.2.1⟩, HP6.out, hs60.out, HEX.out⟩
      | exact ⟨_, rfl, ps0, s, ⟨HSM.out, OUT.out.1, OUT.out.2.1⟩, HP6.out, hs60.out, HEX.out⟩
      | exact ⟨_, ps0, ⟨_, rfl, ⟨HSM.out, OUT.out.1, OUT.out.2.1⟩, HP6.out, hs60.out, HEX.out⟩⟩
end Go.Proofs.Ytophjmphjdhjoaa

/- Draws of descriptions: DrawRenameRule. (Printed by gen/gx27.py.) -/
namespace Go.Proofs.Ytophjmphjdhjoaa
open Go.RowKit Go.Sort

set_option maxRecDepth 100000 in
set_option maxHeartbeats 8000000 in
theorem drawRename_c (A : Option Addr) (l : List UInt8) (c : Nat) (w : World) (hA : Bs w A l c) :
    Calls Try.prog 12 #[.slice A l.length c] w fun e w' => ∃ v ps s t, e = .returned (.tuple #[vdesc v, .string s, .string t]) ∧ SmD (rulesOf ps) ∧ OwnD w w' v ps ∧ s.size ≤ 60 ∧ t.size ≤ 60 ∧ Ext w w' := by
  have e0 := Ext_alloc (.cells #[.slice none 0 0] 26) (Ext.refl w)
  have HR := Lib.hid (Box.new w #[.slice none 0 0] 26)
  have CF := Lib.hid (fun w' h => drawFind_c A l c w' h)
  have CN := Lib.hid (fun w' h => l1New_c A l c w' h)
  unfold vdesc at CF
  go_enter Try.func12, Try.ntmps12
  go_wp2_with fail
  refine (CF.out _ (hA.ext e0)).mono ?_; rintro _ w2 ⟨v, ps, s, rfl, hV, hps6, hs, e2⟩
  obtain ⟨Ad, cd, hv⟩ := hV.own.shape
  subst hv
  have hs60 := Lib.hid hs; clear hs
  have hR2 := HR.out.ext e2
  have hRl := hR2.lt
  have x2 := Ext_alloc (.cells #[.slice Ad ps.length cd] 26) (Ext.refl w2)
  have e02 := (e0.trans e2).trans x2
  clear CF
  go_wp2_with fail
  refine (CN.out _ (hA.ext e02)).mono ?_; rintro _ w3 ⟨p, rfl, hC3⟩
  have hps := hC3.1
  rw [World.size_alloc] at hps
  have hC3' := hC3.lower' e02
  have S3 : Hid (DS w w w3 p A l c w2.heap.size (.slice Ad ps.length cd) ps w.heap.size) :=
    ⟨(Box.new w2 _ _).ext hC3.2.1, ((hV.own.ext x2).ext hC3.2.1).down e0.size, fun u hu b hb => by
      have h1 := hV.own.block u hu b hb
      rw [World.size_alloc] at h1
      exact ⟨by omega, by omega, by omega, by omega⟩, hC3', grown_ext (e02.trans hC3.2.1) _, by omega, by omega, by omega, (hR2.ext x2).ext hC3.2.1, by omega, by omega⟩
  have HSM := Lib.hid hV.small
  have cd3 : _ = some (Value.slice Ad ps.length cd) := S3.out.box.cell 0
  have hwp : w.heap.size ≤ p := by omega
  clear hV hR2 HR e0 e2 x2 e02 hC3 hC3' CN
  have SX := Lib.hid (S3.out.ext (Ext_drew (Ext.refl w3)))
  have HAB : lv2 (fun w' => w'.cell? ⟨w2.heap.size, 0, none⟩ = some (Value.slice Ad ps.length cd)) (fun _ => True) 2 w3.drew := ⟨SX.out.box.cell 0, trivial⟩
  go_wp2_with fail
  refine wp_region_C (C := fun j => lv2 (fun w' => w'.cell? ⟨w2.heap.size, 0, none⟩ = some (Value.slice Ad ps.length cd)) (fun _ => True) (([1, 0, 0, 0, 2, 2, 0, 0, 0] : List Nat).getD j 0)) (by kernel_rfl) ?_
  refine wpAnyC_take 0 (i := 1) (v := ?_) (lv2_mono _ _) rfl (by kernel_rfl) (by kernel_rfl) (by kernel_rfl) (by kernel_rfl) (by kernel_rfl) (fun _ _ _ h => h) trivial (Or.inl ⟨by rfl, ?_⟩) ?_
  rotate_left
  · (intro w hSw; clear hSw; go_simp; try with_reducible rfl)
  try simp only [Act.put, List.setIfInBounds_toArray, List.set_cons_zero, List.set_cons_succ]
  refine wpAnyC_take 0 (i := 2) (v := ?_) (lv2_mono _ _) rfl (by kernel_rfl) (by kernel_rfl) (by kernel_rfl) (by kernel_rfl) (by kernel_rfl) (fun _ _ _ h => h) trivial (Or.inl ⟨by rfl, ?_⟩) ?_
  rotate_left
  · (intro w hSw; clear hSw; go_simp; try with_reducible rfl)
  try simp only [Act.put, List.setIfInBounds_toArray, List.set_cons_zero, List.set_cons_succ]
  refine wpAnyC_take 0 (i := 3) (v := ?_) (lv2_mono _ _) rfl (by kernel_rfl) (by kernel_rfl) (by kernel_rfl) (by kernel_rfl) (by kernel_rfl) (fun _ _ _ h => h) trivial (Or.inl ⟨by rfl, ?_⟩) ?_
  rotate_left
  · (intro w hSw; clear hSw; go_simp; try with_reducible rfl)
  try simp only [Act.put, List.setIfInBounds_toArray, List.set_cons_zero, List.set_cons_succ]
  refine wpAnyC_take 1 (i := 0) (v := ?_) (lv2_mono _ _) rfl (by kernel_rfl) (by kernel_rfl) (by kernel_rfl) (by kernel_rfl) (by kernel_rfl) (fun _ _ _ h => h) (And.left HAB) (Or.inl ⟨by rfl, ?_⟩) ?_
  rotate_left
  · (intro w hSw; have hfact : w.cell? ⟨w2.heap.size, 0, none⟩ = some (Value.slice Ad ps.length cd) := hSw; clear hSw; go_simp; try with_reducible rfl)
  try simp only [Act.put, List.setIfInBounds_toArray, List.set_cons_zero, List.set_cons_succ]
  refine wpAnyC_one (i := 4) (by kernel_rfl) rfl (fun K hK => ?_)
  go_simp
  have SL := Lib.hid (SX.out.ext (Ext_alloc (.cells #[.string ⟨#[122, 57]⟩, .string ⟨#[97, 48]⟩, .string s, .string ⟨#[]⟩, .string ⟨#[65]⟩] 9) (Ext.refl _)))
  refine Shut.out hK _ _ ⟨SL.out.box.cell 0, trivial⟩ ?_
  try simp only [Act.put, List.setIfInBounds_toArray, List.set_cons_zero, List.set_cons_succ]
  refine wpAnyC_one (i := 5) (by kernel_rfl) rfl (fun K hK => ?_)
  go_simp
  go_at_call 26
  refine (l1StrBox_c [⟨#[122, 57]⟩, ⟨#[97, 48]⟩, s, ⟨#[]⟩, ⟨#[65]⟩] (by simp) (by simp) 5 rfl #[.string ⟨#[122, 57]⟩, .string ⟨#[97, 48]⟩, .string s, .string ⟨#[]⟩, .string ⟨#[65]⟩] rfl w _ p A l c hA _ SL.out.cur (by first | (refine Box.newd' _ _ _ _ ?_; first | rfl | (simp; done)) | (refine Box.new' _ _ _ _ ?_; first | rfl | (simp; done)))).mono ?_
  rintro _ w5 ⟨t, ht, rfl, hC5, hg5⟩
  have S5 := Lib.hid (DS.moved SL.out hC5 hg5)
  have ht60 : Hid (t.size ≤ 60) := by
    show _ ≤ _
    have hs := hs60.out
    simp only [List.mem_cons, List.not_mem_nil, or_false] at ht
    rcases ht with h | h | h | h | h <;> rw [h] <;> first | exact hs | decide
  clear ht hC5 hg5
  have cr5 : _ = some (Value.slice none 0 0) := S5.out.res.cell 0
  have yr5 := S5.out.res.free 0
  refine Shut.out hK _ _ ⟨S5.out.box.cell 0, trivial⟩ ?_
  try simp only [Act.put, List.setIfInBounds_toArray, List.set_cons_zero, List.set_cons_succ]
  refine wpAnyC_one (i := 6) (by kernel_rfl) rfl (fun K hK => ?_)
  go_simp
  refine Shut.out hK _ _ trivial ?_
  try simp only [Act.put, List.setIfInBounds_toArray, List.set_cons_zero, List.set_cons_succ]
  refine wpAnyC_one (i := 7) (by kernel_rfl) rfl (fun K hK => ?_)
  go_simp
  refine Shut.out hK _ _ trivial ?_
  try simp only [Act.put, List.setIfInBounds_toArray, List.set_cons_zero, List.set_cons_succ]
  refine wpAnyC_one (i := 8) (by kernel_rfl) rfl (fun K hK => ?_)
  go_simp
  refine Shut.out hK _ _ trivial ?_
  try simp only [Act.put, List.setIfInBounds_toArray, List.set_cons_zero, List.set_cons_succ]
  refine wpAnyC_done (by kernel_rfl) ?_ _
  have OUT : Hid (OwnD w (w5.setCell ⟨w.heap.size, 0, none⟩ (Value.slice Ad ps.length cd)) (Value.slice Ad ps.length cd) ps ∧ (∀ u ∈ (Value.slice Ad ps.length cd) :: ps.flatMap RV.vals, ∀ b, u.ownBlock = some b → w.heap.size ≤ b) ∧ Cur w (w5.setCell ⟨w.heap.size, 0, none⟩ (Value.slice Ad ps.length cd)) p A l c ∧ w.grownBy (w5.setCell ⟨w.heap.size, 0, none⟩ (Value.slice Ad ps.length cd)) (some p)) := DS.finish S5.out (Nat.le_refl _)
  have z9 : (w5.setCell ⟨w.heap.size, 0, none⟩ (Value.slice Ad ps.length cd)).cell? ⟨w.heap.size, 0, none⟩ = some (Value.slice Ad ps.length cd) := World.cell?_setCell_same _ _ _ cr5
  clear SL S5 SX HAB S3 cd3 cr5 yr5
  have HEX : Hid (Ext w (w5.setCell ⟨w.heap.size, 0, none⟩ (Value.slice Ad ps.length cd))) := Ext.grown (Ext.refl w) OUT.out.2.2.2 (fun k hk => by injection hk with hk; omega)
  go_wp2_with fail
  refine bodyPost_ret (v := .tuple #[vdesc (Value.slice Ad ps.length cd), .string s, .string t]) (by simp [results, Try.results12, go_sem, z9, vdesc]) rfl ?_
  first
    | exact ⟨_, ps, s, t, rfl, HSM.out, OUT.out.1, hs60.out, ht60.out, HEX.out⟩
    | exact ⟨_, rfl, ps, s, t, HSM.out, OUT.out.1, hs60.out, ht60.out, HEX.out⟩
end Go.Proofs.Ytophjmphjdhjoaa

/- MergeCoverage of the program and of the reference. -/
namespace Go.Proofs.Ytophjmphjdhjoaa
open Go.RowKit Go.Sort

def at0 (l : List Int) (i : Nat) : Int := l.getD i 0
theorem at0_in {l : List Int} {i : Nat} (h : i < l.length) : at0 l i = l[i] := by unfold at0; simp [h]
theorem at0_out {l : List Int} {i : Nat} (h : ¬ i < l.length) : at0 l i = 0 := by unfold at0; simp [List.getElem?_eq_none (Nat.le_of_not_lt h)]
def merged (a b : List Int) : List Int := (List.range (max a.length b.length)).map fun i => wrap64 (at0 a i + at0 b i)
theorem merged_len (l l' : List Int) : (merged l l').length = max l.length l'.length := by simp [merged]
theorem merged_take {l l' : List Int} {k : Nat} (hk : k < max l.length l'.length) : (merged l l').take k ++ [wrap64 (at0 l k + at0 l' k)] = (merged l l').take (k+1) := by
  have hk' : k < (merged l l').length := by rw [merged_len]; exact hk
  rw [List.take_succ_eq_append_getElem hk']
  simp [merged]
end Go.Proofs.Ytophjmphjdhjoaa

/- Comparison of descriptions: the laws' helpers, the program's and the reference's. -/
namespace Go.Proofs.Ytophjmphjdhjoaa
open Go.RowKit Go.Sort

def eqNm (a b : ByteArray) : Bool := a.toList == b.toList
def eqNms (l l' : List ByteArray) : Bool := l.map ByteArray.toList == l'.map ByteArray.toList
def eqR (r q : DRule) : Bool := r.nm.toList == q.nm.toList && r.kind == q.kind && r.size == q.size && r.little == q.little && r.bytes == q.bytes && eqNms r.names q.names && r.tags == q.tags && r.kids == q.kids
def eqAll {α : Type} (f : α → α → Bool) : List α → List α → Bool
  | [], [] => true
  | a :: s, b :: t => f a b && eqAll f s t
  | _, _ => false
theorem eqAll_len {α : Type} (f : α → α → Bool) : ∀ (s t : List α), s.length ≠ t.length → eqAll f s t = false
  | [], [], h => absurd rfl h
  | [], _ :: _, _ => rfl
  | _ :: _, [], _ => rfl
  | a :: s, b :: t, h => by rw [eqAll, eqAll_len f s t (by simpa using h), Bool.and_false]
theorem eqAll_take {α : Type} (f : α → α → Bool) : ∀ (s t : List α) (k : Nat) (h1 : k < s.length) (h2 : k < t.length), f s[k] t[k] = false → eqAll f s t = false
  | a :: s, b :: t, 0, _, _, h => by rw [eqAll]; simp at h; rw [h]; rfl
  | a :: s, b :: t, k + 1, h1, h2, h => by rw [eqAll, eqAll_take f s t k (by simpa using h1) (by simpa using h2) (by simpa using h), Bool.and_false]
theorem eqAll_all {α : Type} (f : α → α → Bool) : ∀ (s t : List α), s.length = t.length → (∀ k (h1 : k < s.length) (h2 : k < t.length), f s[k] t[k] = true) → eqAll f s t = true
  | [], [], _, _ => rfl
  | a :: s, b :: t, hl, h => by
    rw [eqAll, eqAll_all f s t (by simpa using hl) (fun k h1 h2 => by have := h (k+1) (by simpa using h1) (by simpa using h2); simpa using this)]
    have := h 0 (by simp) (by simp); simp at this; rw [this]; rfl
  | [], _ :: _, h, _ => by simp at h
  | _ :: _, [], h, _ => by simp at h
theorem eqAll_refl {α : Type} (f : α → α → Bool) (s : List α) (h : ∀ a ∈ s, f a a = true) : eqAll f s s = true := eqAll_all f s s rfl (fun k h1 _ => h _ (List.getElem_mem h1))
def eqD (s t : List DRule) : Bool := eqAll eqR s t
def eqG (s t : List (List DRule)) : Bool := eqAll eqD s t
theorem eqNms_refl (l : List ByteArray) : eqNms l l = true := by simp [eqNms]
theorem eqR_refl (r : DRule) : eqR r r = true := by simp [eqR, eqNms_refl]
theorem eqD_refl (s : List DRule) : eqD s s = true := eqAll_refl _ _ (fun a _ => eqR_refl a)
theorem eqG_refl (s : List (List DRule)) : eqG s s = true := eqAll_refl _ _ (fun a _ => eqD_refl a)
end Go.Proofs.Ytophjmphjdhjoaa

/- Comparison of descriptions: the laws' helpers, the program's and the reference's. -/
namespace Go.Proofs.Ytophjmphjdhjoaa
open Go.RowKit Go.Sort

theorem eqNms_take {l l' : List ByteArray} {k : Nat} (h1 : k < l.length) (h2 : k < l'.length) (h : (l.take k).map ByteArray.toList = (l'.take k).map ByteArray.toList) (e : (l[k].toList == l'[k].toList) = true) : (l.take (k+1)).map ByteArray.toList = (l'.take (k+1)).map ByteArray.toList := by
  rw [List.take_succ_eq_append_getElem h1, List.take_succ_eq_append_getElem h2, List.map_append, List.map_append, h]
  simp at e
  simp [e]
theorem eqNms_no {l l' : List ByteArray} {k : Nat} (h1 : k < l.length) (h2 : k < l'.length) (e : (l[k].toList == l'[k].toList) = false) : eqNms l l' = false := by
  unfold eqNms
  rw [beq_eq_false_iff_ne]
  intro h
  have h3 : (l.map ByteArray.toList)[k]? = (l'.map ByteArray.toList)[k]? := by rw [h]
  simp [h1, h2] at h3
  simp [h3] at e

set_option maxHeartbeats 400000 in
theorem sameTexts_c (A A' : Option Addr) (l l' : List ByteArray) (c c' : Nat) (w : World) (h : Rd0 vstr w A l c) (h' : Rd0 vstr w A' l' c') :
    Gives Try.prog 9 #[.slice A l.length c, .slice A' l'.length c'] w (.bool (eqNms l l')) := by
  have hl := h.len; have hl' := h'.len
  by_cases hn : l.length = l'.length
  · have hb1 : ((l.length : Int) != (l'.length : Int)) = false := by simp [hn]
    have H := Lib.hid hn; clear hn
    go_enter Try.func9, Try.ntmps9
    go_wp2
    go_loopw [5, 4] (fun i v wr => ∃ k : Nat, k ≤ l.length ∧ i = .int .i64 k ∧ Hid ((l.take k).map ByteArray.toList = (l'.take k).map ByteArray.toList) ∧ Ext w wr) (fun i _ _ => l.length - (intOf i).toNat)
    case atStart => exact ⟨0, by omega, rfl, by simp [Hid], Ext.refl _⟩
    case round =>
      obtain ⟨k, hk, rfl, ht, he⟩ := hrel
      by_cases hlt : k < l.length
      · have hlt' : k < l'.length := by have := H.out; omega
        obtain ⟨b, off, rfl, hb, hc⟩ := h.at k hlt
        obtain ⟨b', off', rfl, hb', hc'⟩ := h'.at k hlt'
        clear h h'
        go_wp2
        refine wp_region_quiet_below (by kernel_rfl) (by kernel_rfl) ?_
        repeat (go_big_quiet_step (fail))
        refine wpQuiet_nil ?_
        rintro _ ⟨⟨nq, osq⟩, rfl⟩
        go_wp2
        · have hne : (l[k].toList != l'[k].toList) = true := by assumption
          go_ret
          refine ⟨ret_bool ?_, Ext_regrown _ _ he⟩
          exact (eqNms_no hlt hlt' (by simpa using hne)).symm
        · have hne : (l[k].toList != l'[k].toList) = false := by assumption
          go_roundw
          case rel => exact ⟨k+1, by omega, by go_num, eqNms_take hlt hlt' ht.out (by simpa using hne), Ext_regrown _ _ he⟩
          case measure => simp [intOf]; omega
      · go_wp2
        go_ret
        refine ⟨ret_bool ?_, he⟩
        have ht := ht.out; have H := H.out
        rw [List.take_of_length_le (by omega), List.take_of_length_le (by omega)] at ht
        simp [eqNms, ht]
  · have hb1 : ((l.length : Int) != (l'.length : Int)) = true := by simp; omega
    go_enter Try.func9, Try.ntmps9
    go_wp2
    go_ret
    refine ⟨ret_bool ?_, Ext.refl _⟩
    symm; unfold eqNms; rw [beq_eq_false_iff_ne]; intro h2; exact hn (by have := congrArg List.length h2; simpa using this)

set_option maxHeartbeats 400000 in
theorem l4Texts_c (A A' : Option Addr) (l l' : List ByteArray) (c c' : Nat) (w : World) (h : Rd0 vstr w A l c) (h' : Rd0 vstr w A' l' c') :
    Gives Try.prog 48 #[.slice A l.length c, .slice A' l'.length c'] w (.bool (eqNms l l')) := by
  have hl := h.len; have hl' := h'.len
  by_cases hn : l.length = l'.length
  · have hb1 : ((l.length : Int) != (l'.length : Int)) = false := by simp [hn]
    have H := Lib.hid hn; clear hn
    go_enter Try.func48, Try.ntmps48
    go_wp2
    go_loopw [5, 4] (fun i v wr => ∃ k : Nat, k ≤ l.length ∧ i = .int .i64 k ∧ Hid ((l.take k).map ByteArray.toList = (l'.take k).map ByteArray.toList) ∧ Ext w wr) (fun i _ _ => l.length - (intOf i).toNat)
    case atStart => exact ⟨0, by omega, rfl, by simp [Hid], Ext.refl _⟩
    case round =>
      obtain ⟨k, hk, rfl, ht, he⟩ := hrel
      by_cases hlt : k < l.length
      · have hlt' : k < l'.length := by have := H.out; omega
        obtain ⟨b, off, rfl, hb, hc⟩ := h.at k hlt
        obtain ⟨b', off', rfl, hb', hc'⟩ := h'.at k hlt'
        clear h h'
        go_wp2
        refine wp_region_quiet_below (by kernel_rfl) (by kernel_rfl) ?_
        repeat (go_big_quiet_step (fail))
        refine wpQuiet_nil ?_
        rintro _ ⟨⟨nq, osq⟩, rfl⟩
        go_wp2
        · have hne : (l[k].toList != l'[k].toList) = true := by assumption
          go_ret
          refine ⟨ret_bool ?_, Ext_regrown _ _ he⟩
          exact (eqNms_no hlt hlt' (by simpa using hne)).symm
        · have hne : (l[k].toList != l'[k].toList) = false := by assumption
          go_roundw
          case rel => exact ⟨k+1, by omega, by go_num, eqNms_take hlt hlt' ht.out (by simpa using hne), Ext_regrown _ _ he⟩
          case measure => simp [intOf]; omega
      · go_wp2
        go_ret
        refine ⟨ret_bool ?_, he⟩
        have ht := ht.out; have H := H.out
        rw [List.take_of_length_le (by omega), List.take_of_length_le (by omega)] at ht
        simp [eqNms, ht]
  · have hb1 : ((l.length : Int) != (l'.length : Int)) = true := by simp; omega
    go_enter Try.func48, Try.ntmps48
    go_wp2
    go_ret
    refine ⟨ret_bool ?_, Ext.refl _⟩
    symm; unfold eqNms; rw [beq_eq_false_iff_ne]; intro h2; exact hn (by have := congrArg List.length h2; simpa using this)
set_option maxHeartbeats 400000 in
theorem l4Ints_c (A A' : Option Addr) (l l' : List Int) (c c' : Nat) (w : World) (h : Rd0 vint w A l c) (h' : Rd0 vint w A' l' c') :
    Gives Try.prog 49 #[.slice A l.length c, .slice A' l'.length c'] w (.bool (l == l')) := by
  have hl := h.len; have hl' := h'.len
  by_cases hn : l.length = l'.length
  · have hb1 : ((l.length : Int) != (l'.length : Int)) = false := by simp [hn]
    have H := Lib.hid hn; clear hn
    go_enter Try.func49, Try.ntmps49
    go_wp2
    go_loopw [5, 4] (fun i v wr => ∃ k : Nat, k ≤ l.length ∧ i = .int .i64 k ∧ Hid (l.take k = l'.take k) ∧ Ext w wr) (fun i _ _ => l.length - (intOf i).toNat)
    case atStart => exact ⟨0, by omega, rfl, by simp [Hid], Ext.refl _⟩
    case round =>
      obtain ⟨k, hk, rfl, ht, he⟩ := hrel
      by_cases hlt : k < l.length
      · have hlt' : k < l'.length := by have := H.out; omega
        obtain ⟨b, off, rfl, hb, hc⟩ := h.at k hlt
        obtain ⟨b', off', rfl, hb', hc'⟩ := h'.at k hlt'
        clear h h'
        go_wp2
        refine wp_region_quiet_below (by kernel_rfl) (by kernel_rfl) ?_
        repeat (go_big_quiet_step (fail))
        refine wpQuiet_nil ?_
        rintro _ ⟨⟨nq, osq⟩, rfl⟩
        go_wp2
        · have hne : (l[k] != l'[k]) = true := by assumption
          go_ret
          refine ⟨ret_bool ?_, Ext_regrown _ _ he⟩
          symm; rw [beq_eq_false_iff_ne]; rintro rfl; simp at hne
        · have hne : (l[k] != l'[k]) = false := by assumption
          go_roundw
          case rel => exact ⟨k+1, by omega, by go_num, take_eq_succ hlt hlt' ht (by simpa using hne), Ext_regrown _ _ he⟩
          case measure => simp [intOf]; omega
      · go_wp2
        go_ret
        refine ⟨ret_bool ?_, he⟩
        have ht := ht.out; have H := H.out
        rw [List.take_of_length_le (by omega), List.take_of_length_le (by omega)] at ht
        simp [ht]
  · have hb1 : ((l.length : Int) != (l'.length : Int)) = true := by simp; omega
    go_enter Try.func49, Try.ntmps49
    go_wp2
    go_ret
    refine ⟨ret_bool ?_, Ext.refl _⟩
    symm; rw [beq_eq_false_iff_ne]; rintro rfl; exact hn rfl
end Go.Proofs.Ytophjmphjdhjoaa

/- Comparison of rules: the reference's and the program's. -/
namespace Go.Proofs.Ytophjmphjdhjoaa
open Go.RowKit Go.Sort

set_option maxRecDepth 100000 in
set_option maxHeartbeats 4000000 in
theorem l4Equal_c (r q : DRule) (Ab : Option Addr) (cb : Nat) (An : Option Addr) (cn : Nat) (At : Option Addr) (ct : Nat) (Ak : Option Addr) (ck : Nat) (Ab' : Option Addr) (cb' : Nat) (An' : Option Addr) (cn' : Nat) (At' : Option Addr) (ct' : Nat) (Ak' : Option Addr) (ck' : Nat) (w : World) (h : RdS w r Ab cb An cn At ct Ak ck) (h' : RdS w q Ab' cb' An' cn' At' ct' Ak' ck') (hs : ShortR r) (hs' : ShortR q) :
    Gives Try.prog 32 #[vrule r (.slice Ab r.bytes.length cb) (.slice An r.names.length cn) (.slice At r.tags.length ct) (.slice Ak r.kids.length ck), vrule q (.slice Ab' q.bytes.length cb') (.slice An' q.names.length cn') (.slice At' q.tags.length ct') (.slice Ak' q.kids.length ck')] w (.bool (eqR r q)) := by
  have eb := Ext_alloc (.cells #[.string q.nm, .int .i64 q.kind, .int .i64 q.size, .bool q.little, .slice Ab' q.bytes.length cb', .slice An' q.names.length cn', .slice At' q.tags.length ct', .slice Ak' q.kids.length ck'] 35) (Ext_alloc (.cells #[.string r.nm, .int .i64 r.kind, .int .i64 r.size, .bool r.little, .slice Ab r.bytes.length cb, .slice An r.names.length cn, .slice At r.tags.length ct, .slice Ak r.kids.length ck] 35) (Ext.refl w))
  have BX := fun w' (e : Ext ((w.alloc (.cells #[.string r.nm, .int .i64 r.kind, .int .i64 r.size, .bool r.little, .slice Ab r.bytes.length cb, .slice An r.names.length cn, .slice At r.tags.length ct, .slice Ak r.kids.length ck] 35)).alloc (.cells #[.string q.nm, .int .i64 q.kind, .int .i64 q.size, .bool q.little, .slice Ab' q.bytes.length cb', .slice An' q.names.length cn', .slice At' q.tags.length ct', .slice Ak' q.kids.length ck'] 35)) w') => boxed2 e
  have B0 := fun w' e => (BX w' e).1
  have B1 := fun w' e => (BX w' e).2.1
  clear BX
  have C5 := Lib.hid (fun w h h' => sEqualBytes_c Ab Ab' r.bytes q.bytes cb cb' w h h')
  have C6 := Lib.hid (fun w h h' => l4Texts_c An An' r.names q.names cn cn' w h h')
  have C7 := Lib.hid (fun w h h' => l4Ints_c At At' r.tags q.tags ct ct' w h h')
  have C8 := Lib.hid (fun w h h' => l4Ints_c Ak Ak' r.kids q.kids ck ck' w h h')
  have K5 := Lib.hid (fun w' (e : Ext w w') => C5.out w' (⟨h.b.ext e, hs.1⟩) (⟨h'.b.ext e, hs'.1⟩))
  have K6 := Lib.hid (fun w' (e : Ext w w') => C6.out w' (h.n.ext e) (h'.n.ext e))
  have K7 := Lib.hid (fun w' (e : Ext w w') => C7.out w' (h.t.ext e) (h'.t.ext e))
  have K8 := Lib.hid (fun w' (e : Ext w w') => C8.out w' (h.k.ext e) (h'.k.ext e))
  clear C5 C6 C7 C8 h h' hs hs'
  unfold eqR
  generalize (r.bytes == q.bytes) = q5 at *
  generalize eqNms r.names q.names = q6 at *
  generalize (r.tags == q.tags) = q7 at *
  generalize (r.kids == q.kids) = q8 at *
  obtain ⟨nm, kind, size, little, bytes, names, tags, kids⟩ := r
  obtain ⟨nm', kind', size', little', bytes', names', tags', kids'⟩ := q
  unfold vrule
  dsimp only at *
  have HB0 := Lib.hid B0; have HB1 := Lib.hid B1; have b00 := B0 _ (Ext.refl _); have b10 := B1 _ (Ext.refl _); clear B0 B1
  cases g1 : (nm.toList == nm'.toList)
  · have h1 : (nm.toList != nm'.toList) = true := by rw [bne, g1]; rfl
    go_enter Try.func32, Try.ntmps32
    go_wp2
    go_ret
    exact ⟨ret_bool (by simp), eb⟩
  have h1 : (nm.toList != nm'.toList) = false := by rw [bne, g1]; rfl
  cases g2 : (kind == kind')
  · have h2 : (kind != kind') = true := by rw [bne, g2]; rfl
    go_enter Try.func32, Try.ntmps32
    go_wp2
    go_ret
    exact ⟨ret_bool (by simp), eb⟩
  have h2 : (kind != kind') = false := by rw [bne, g2]; rfl
  cases g3 : (size == size')
  · have h3 : (size != size') = true := by rw [bne, g3]; rfl
    go_enter Try.func32, Try.ntmps32
    go_wp2
    go_ret
    exact ⟨ret_bool (by simp), eb⟩
  have h3 : (size != size') = false := by rw [bne, g3]; rfl
  cases g4 : (little == little')
  · have h4 : (little != little') = true := by rw [bne, g4]; rfl
    go_enter Try.func32, Try.ntmps32
    go_wp2
    go_ret
    exact ⟨ret_bool (by simp), eb⟩
  have h4 : (little != little') = false := by rw [bne, g4]; rfl
  go_enter Try.func32, Try.ntmps32
  go_wp2_with fail
  refine (K5.out _ eb).mono ?_; rintro _ w5 ⟨rfl, he5⟩
  have e5 := he5
  have b05 := HB0.out _ e5; have b15 := HB1.out _ e5; clear he5 b00 b10 h1 h2 h3 h4 g1 g2 g3 g4
  cases q5
  · go_wp2
    go_ret
    exact ⟨ret_bool (by simp), eb.trans e5⟩
  go_wp2_with fail
  refine (K6.out _ (eb.trans e5)).mono ?_; rintro _ w6 ⟨rfl, he6⟩
  have e6 := e5.trans he6
  have b06 := HB0.out _ e6; have b16 := HB1.out _ e6; clear he6 b05 b15 e5
  cases q6
  · go_wp2
    go_ret
    exact ⟨ret_bool (by simp), eb.trans e6⟩
  go_wp2_with fail
  refine (K7.out _ (eb.trans e6)).mono ?_; rintro _ w7 ⟨rfl, he7⟩
  have e7 := e6.trans he7
  have b07 := HB0.out _ e7; have b17 := HB1.out _ e7; clear he7 b06 b16 e6
  cases q7
  · go_wp2
    go_ret
    exact ⟨ret_bool (by simp), eb.trans e7⟩
  go_wp2_with fail
  refine (K8.out _ (eb.trans e7)).mono ?_; rintro _ w8 ⟨rfl, he8⟩
  have e8 := e7.trans he8
  have b08 := HB0.out _ e8; have b18 := HB1.out _ e8; clear he8 b07 b17 e7
  cases q8
  · go_wp2
    go_ret
    exact ⟨ret_bool (by simp), eb.trans e8⟩
  go_wp2
  go_ret
  exact ⟨ret_bool (by simp), eb.trans e8⟩
/-- rules, all short -/
def ShortD (ds : List DRule) : Prop := ∀ r ∈ ds, ShortR r
def ShortG (gs : List (List DRule)) : Prop := ∀ d ∈ gs, ShortD d
theorem shortD_of {ds : List DRule} (h : szD ds ≤ 1048576) : ShortD ds := fun _ hr => (szRl_short (szD_mem h hr)).1
theorem shortG_of {gs : List (List DRule)} (h : szG gs ≤ 1048576) : ShortG gs := fun _ hd => shortD_of (szG_mem h hd)
end Go.Proofs.Ytophjmphjdhjoaa

/- Parts of the test of a description: names in lists, limits, fields. -/
namespace Go.Proofs.Ytophjmphjdhjoaa
open Go.RowKit Go.Sort

set_option maxHeartbeats 400000 in
theorem sContains_c (A : Option Addr) (l : List ByteArray) (c : Nat) (s : ByteArray) (w : World) (h : Rd0 vstr w A l c) :
    Gives Try.prog 11 #[.slice A l.length c, .string s] w (.bool (hasNm l s)) := by
  have hl := h.len
  go_enter Try.func11, Try.ntmps11
  go_wp2
  go_loopw [5] (fun i wr => ∃ k : Nat, k ≤ l.length ∧ i = .int .i64 k ∧ Hid (∀ j (hj : j < l.length), j < k → (l[j].toList == s.toList) = false) ∧ Ext w wr) (fun i _ => l.length - (intOf i).toNat)
  case atStart => exact ⟨0, by omega, rfl, (fun j _ hj => by omega), Ext.refl _⟩
  case round =>
    obtain ⟨k, hk, rfl, ht, he⟩ := hrel
    by_cases hlt : k < l.length
    · obtain ⟨b, off, rfl, hb, hc⟩ := h.at k hlt
      have YES : Hid ((l[k].toList == s.toList) = true → hasNm l s = true) := hasNm_at hlt
      have NO : Hid ((l[k].toList == s.toList) = false → ∀ j (hj : j < l.length), j < k + 1 → (l[j].toList == s.toList) = false) := by
        intro hy j hj hjk
        rcases (by omega : j < k ∨ j = k) with hjk | rfl
        · exact ht.out j hj hjk
        · exact hy
      clear h
      generalize l[k] = x at *
      cases hq : (x.toList == s.toList)
      · have NO' := Lib.hid (NO.out hq)
        go_wp2
        go_roundw
        case rel => exact ⟨k+1, by omega, by go_num, NO'.out, he⟩
        case measure => simp [intOf]; omega
      · have YES' := Lib.hid (YES.out hq)
        go_wp2
        go_ret
        exact ⟨ret_bool YES'.out.symm, he⟩
    · have HE : Hid (hasNm l s = false) := hasNm_none (fun j hj => ht.out j hj (by omega))
      go_wp2
      go_ret
      exact ⟨ret_bool HE.out.symm, he⟩
set_option maxHeartbeats 400000 in
theorem iContains_c (A : Option Addr) (l : List ByteArray) (c : Nat) (s : ByteArray) (w : World) (h : Rd0 vstr w A l c) :
    Gives Try.prog 23 #[.slice A l.length c, .string s] w (.bool (hasNm l s)) := by
  have hl := h.len
  go_enter Try.func23, Try.ntmps23
  go_wp2
  go_loopw [9] (fun i wr => ∃ k : Nat, k ≤ l.length ∧ i = .int .i64 k ∧ Hid (∀ j (hj : j < l.length), j < k → (l[j].toList == s.toList) = false) ∧ Ext w wr) (fun i _ => l.length - (intOf i).toNat)
  case atStart => exact ⟨0, by omega, rfl, (fun j _ hj => by omega), Ext.refl _⟩
  case round =>
    obtain ⟨k, hk, rfl, ht, he⟩ := hrel
    by_cases hlt : k < l.length
    · obtain ⟨b, off, rfl, hb, hc⟩ := h.at k hlt
      have YES : Hid ((l[k].toList == s.toList) = true → hasNm l s = true) := hasNm_at hlt
      have NO : Hid ((l[k].toList == s.toList) = false → ∀ j (hj : j < l.length), j < k + 1 → (l[j].toList == s.toList) = false) := by
        intro hy j hj hjk
        rcases (by omega : j < k ∨ j = k) with hjk | rfl
        · exact ht.out j hj hjk
        · exact hy
      clear h
      generalize l[k] = x at *
      cases hq : (x.toList == s.toList)
      · have NO' := Lib.hid (NO.out hq)
        go_wp2
        go_roundw
        case rel => exact ⟨k+1, by omega, by go_num, NO'.out, he⟩
        case measure => simp [intOf]; omega
      · have YES' := Lib.hid (YES.out hq)
        go_wp2
        go_ret
        exact ⟨ret_bool YES'.out.symm, he⟩
    · have HE : Hid (hasNm l s = false) := hasNm_none (fun j hj => ht.out j hj (by omega))
      go_wp2
      go_ret
      exact ⟨ret_bool HE.out.symm, he⟩
set_option maxHeartbeats 400000 in
theorem hasRule_c (A : Option Addr) (n c : Nat) (i : Int) (w : World) (hn : n ≤ 9223372036854775807) :
    Gives Try.prog 42 #[vdesc (.slice A n c), .int .i64 i] w (.bool (decide (0 ≤ i) && decide (i < n))) := by
  unfold vdesc
  by_cases h0 : 0 ≤ i
  · by_cases h1 : i < n
    all_goals
      go_enter Try.func42, Try.ntmps42
      go_wp2
      go_ret
      exact ⟨ret_bool (by simp [*]), Ext_alloc _ (Ext.refl w)⟩
  · go_enter Try.func42, Try.ntmps42
    go_wp2
    go_ret
    exact ⟨ret_bool (by simp; omega), Ext_alloc _ (Ext.refl w)⟩
end Go.Proofs.Ytophjmphjdhjoaa

/- Limits of integers; the fields that a rule may have. -/
namespace Go.Proofs.Ytophjmphjdhjoaa
open Go.RowKit Go.Sort

theorem limD_out {ds : List DRule} {i : Int} (h : ¬ (0 ≤ i ∧ i < ds.length)) : limD ds i = -1 := by
  unfold limD
  split
  · rw [List.getElem?_eq_none (by omega)]
  · rfl
theorem limD_in {ds : List DRule} {k : Nat} (h : k < ds.length) : limD ds (k : Int) = limR ds[k] := by
  unfold limD
  rw [if_pos (by omega), Int.toNat_natCast, List.getElem?_eq_getElem h]
theorem limR_kind {r : DRule} (h : r.kind ≠ 1) : limR r = -1 := by unfold limR; rw [if_neg (by omega)]
theorem limR_size {r : DRule} (h : ¬ (1 ≤ r.size ∧ r.size ≤ 4)) : limR r = -1 := by unfold limR; rw [if_neg (by omega)]
theorem limR_yes {r : DRule} (h : r.kind = 1) (s : Nat) (h1 : 1 ≤ s) (h2 : s ≤ 4) (e : r.size = s) : limR r = 256 ^ s - 1 := by
  unfold limR; rw [if_pos (by omega), e, Int.toNat_natCast]
set_option maxRecDepth 100000 in
set_option maxHeartbeats 2000000 in
theorem iLimit_c (A : Option Addr) (ds : List DRule) (c : Nat) (i : Int) (w : World) (h : RdD w A ds c) :
    Gives Try.prog 66 #[vdesc (.slice A ds.length c), .int .i64 i] w (.int .i64 (limD ds i)) := by
  have hl := h.len
  have eb := Ext_alloc (.cells #[.slice A ds.length c] 26) (Ext.refl w)
  have BX := fun w' (e : Ext (w.alloc (.cells #[.slice A ds.length c] 26)) w') => boxed e 0
  simp only [List.getElem?_toArray, List.getElem?_cons_zero] at BX
  have CR := Lib.hid (fun w => hasRule_c A ds.length c i w hl)
  unfold vdesc at *
  by_cases hin : 0 ≤ i ∧ i < ds.length
  · obtain ⟨k, rfl⟩ := Int.eq_ofNat_of_zero_le hin.1
    have hlt : k < ds.length := by omega
    have HI : Hid ((decide ((0 : Int) ≤ (k : Int)) && decide ((k : Int) < (ds.length : Int))) = true) := by show _ = _; simp; omega
    rw [HI.out] at CR
    obtain ⟨b, off, Ab, cb, An, cn, At, ct, Ak, ck, rfl, hb, hS, hR⟩ := h.at k hlt
    have HV := Lib.hid (limD_in hlt)
    rw [HV.out]
    have hR' := hR.ext eb
    clear hR hS h
    generalize ds[k] = r at *
    obtain ⟨k0, k1, k2, k3, k4, k5, k6, k7⟩ := hR'
    clear k0 k3 k4 k5 k6 k7 hin
    by_cases hk : r.kind = 1
    · by_cases hs : 1 ≤ r.size ∧ r.size ≤ 4
      · have hs4 : r.size = ((1 : Nat) : Int) ∨ r.size = ((2 : Nat) : Int) ∨ r.size = ((3 : Nat) : Int) ∨ r.size = ((4 : Nat) : Int) := by omega
        have CI := Lib.hid (fun w => iInRange_c r.size 1 4 w)
        have HJ : Hid ((decide ((1 : Int) ≤ r.size) && decide (r.size ≤ 4)) = true) := by show _ = _; simp; omega
        rw [HJ.out] at CI
        rcases hs4 with e | e | e | e
        · have HL := Lib.hid (limR_yes hk 1 (by omega) (by omega) e)
          rw [HL.out]
          rw [e] at k2 CI
          rw [hk] at k1
          clear hs hk e HJ
          go_enter Try.func66, Try.ntmps66
          go_wp2_with fail
          refine (CR.out _).mono ?_; rintro _ w1 ⟨rfl, he1⟩
          go_wp2_with fail
          refine (CI.out _).mono ?_; rintro _ w2 ⟨rfl, he2⟩
          have e2 := he1.trans he2
          go_wp2
          go_ret
          exact ⟨ret_i64 (by simp), eb.trans e2⟩
        · have HL := Lib.hid (limR_yes hk 2 (by omega) (by omega) e)
          rw [HL.out]
          rw [e] at k2 CI
          rw [hk] at k1
          clear hs hk e HJ
          go_enter Try.func66, Try.ntmps66
          go_wp2_with fail
          refine (CR.out _).mono ?_; rintro _ w1 ⟨rfl, he1⟩
          go_wp2_with fail
          refine (CI.out _).mono ?_; rintro _ w2 ⟨rfl, he2⟩
          have e2 := he1.trans he2
          go_wp2
          go_ret
          exact ⟨ret_i64 (by simp), eb.trans e2⟩
        · have HL := Lib.hid (limR_yes hk 3 (by omega) (by omega) e)
          rw [HL.out]
          rw [e] at k2 CI
          rw [hk] at k1
          clear hs hk e HJ
          go_enter Try.func66, Try.ntmps66
          go_wp2_with fail
          refine (CR.out _).mono ?_; rintro _ w1 ⟨rfl, he1⟩
          go_wp2_with fail
          refine (CI.out _).mono ?_; rintro _ w2 ⟨rfl, he2⟩
          have e2 := he1.trans he2
          go_wp2
          go_ret
          exact ⟨ret_i64 (by simp), eb.trans e2⟩
        · have HL := Lib.hid (limR_yes hk 4 (by omega) (by omega) e)
          rw [HL.out]
          rw [e] at k2 CI
          rw [hk] at k1
          clear hs hk e HJ
          go_enter Try.func66, Try.ntmps66
          go_wp2_with fail
          refine (CR.out _).mono ?_; rintro _ w1 ⟨rfl, he1⟩
          go_wp2_with fail
          refine (CI.out _).mono ?_; rintro _ w2 ⟨rfl, he2⟩
          have e2 := he1.trans he2
          go_wp2
          go_ret
          exact ⟨ret_i64 (by simp), eb.trans e2⟩
      · have CI := Lib.hid (fun w => iInRange_c r.size 1 4 w)
        have HJ : Hid ((decide ((1 : Int) ≤ r.size) && decide (r.size ≤ 4)) = false) := by show _ = _; rw [Bool.and_eq_false_iff]; simp; omega
        rw [HJ.out] at CI
        have HL := Lib.hid (limR_size hs)
        rw [HL.out]
        rw [hk] at k1
        clear hs hk HJ
        go_enter Try.func66, Try.ntmps66
        go_wp2_with fail
        refine (CR.out _).mono ?_; rintro _ w1 ⟨rfl, he1⟩
        go_wp2_with fail
        refine (CI.out _).mono ?_; rintro _ w2 ⟨rfl, he2⟩
        go_wp2
        go_ret
        exact ⟨rfl, eb.trans (he1.trans he2)⟩
    · have HL := Lib.hid (limR_kind hk)
      rw [HL.out]
      have hk1 : (r.kind != 1) = true := by simpa using hk
      go_enter Try.func66, Try.ntmps66
      go_wp2_with fail
      refine (CR.out _).mono ?_; rintro _ w1 ⟨rfl, he1⟩
      go_wp2
      go_ret
      exact ⟨rfl, eb.trans he1⟩
  · have HI : Hid ((decide ((0 : Int) ≤ i) && decide (i < (ds.length : Int))) = false) := by show _ = _; rw [Bool.and_eq_false_iff]; simp; omega
    rw [HI.out] at CR
    have HL := Lib.hid (limD_out hin)
    rw [HL.out]
    clear hin
    go_enter Try.func66, Try.ntmps66
    go_wp2_with fail
    refine (CR.out _).mono ?_; rintro _ w1 ⟨rfl, he1⟩
    go_wp2
    go_ret
    exact ⟨rfl, eb.trans he1⟩
set_option maxHeartbeats 400000 in
theorem l2PowerN_c (s : Nat) (w : World) (h1 : 1 ≤ s) (h2 : s ≤ 4) : Gives Try.prog 69 #[.int .i64 (s : Int)] w (.int .i64 (256 ^ s)) := by
  rcases (by omega : s = 1 ∨ s = 2 ∨ s = 3 ∨ s = 4) with rfl | rfl | rfl | rfl
  all_goals
    go_enter Try.func69, Try.ntmps69
    go_wp2
    go_ret
    exact ⟨ret_i64 (by simp), Ext.refl _⟩
set_option maxRecDepth 100000 in
set_option maxHeartbeats 2000000 in
theorem sLimit_c (A : Option Addr) (ds : List DRule) (c : Nat) (i : Int) (w : World) (h : RdD w A ds c) :
    Gives Try.prog 61 #[vdesc (.slice A ds.length c), .int .i64 i] w (.int .i64 (limD ds i)) := by
  have hl := h.len
  have eb := Ext_alloc (.cells #[.slice A ds.length c] 26) (Ext.refl w)
  have BX := fun w' (e : Ext (w.alloc (.cells #[.slice A ds.length c] 26)) w') => boxed e 0
  simp only [List.getElem?_toArray, List.getElem?_cons_zero] at BX
  have CR := Lib.hid (fun w => l1In_c i 0 ((ds.length : Int) - 1) w)
  unfold vdesc at *
  by_cases hin : 0 ≤ i ∧ i < ds.length
  · obtain ⟨k, rfl⟩ := Int.eq_ofNat_of_zero_le hin.1
    have hlt : k < ds.length := by omega
    have HI : Hid ((decide ((0 : Int) ≤ (k : Int)) && decide ((k : Int) ≤ (ds.length : Int) - 1)) = true) := by show _ = _; simp; omega
    rw [HI.out] at CR
    obtain ⟨b, off, Ab, cb, An, cn, At, ct, Ak, ck, rfl, hb, hS, hR⟩ := h.at k hlt
    have HV := Lib.hid (limD_in hlt)
    rw [HV.out]
    have hR' := hR.ext eb
    clear hR hS h
    generalize ds[k] = r at *
    obtain ⟨k0, k1, k2, k3, k4, k5, k6, k7⟩ := hR'
    clear k0 k3 k4 k5 k6 k7 hin
    by_cases hk : r.kind = 1
    · by_cases hs : 1 ≤ r.size ∧ r.size ≤ 4
      · have hs4 : r.size = ((1 : Nat) : Int) ∨ r.size = ((2 : Nat) : Int) ∨ r.size = ((3 : Nat) : Int) ∨ r.size = ((4 : Nat) : Int) := by omega
        have CI := Lib.hid (fun w => l1In_c r.size 1 4 w)
        have HJ : Hid ((decide ((1 : Int) ≤ r.size) && decide (r.size ≤ 4)) = true) := by show _ = _; simp; omega
        rw [HJ.out] at CI
        rcases hs4 with e | e | e | e
        · have HL := Lib.hid (limR_yes hk 1 (by omega) (by omega) e)
          rw [HL.out]
          rw [e] at k2 CI
          rw [hk] at k1
          clear hs hk e HJ
          go_enter Try.func61, Try.ntmps61
          go_wp2_with fail
          refine (CR.out _).mono ?_; rintro _ w1 ⟨rfl, he1⟩
          go_wp2_with fail
          refine (CI.out _).mono ?_; rintro _ w2 ⟨rfl, he2⟩
          have e2 := he1.trans he2
          go_wp2_with fail
          refine (l2PowerN_c 1 _ (by omega) (by omega)).mono ?_
          rintro _ w3 ⟨rfl, he3⟩
          have e3 := e2.trans he3
          go_wp2
          go_ret
          exact ⟨ret_i64 (by simp), eb.trans e3⟩
        · have HL := Lib.hid (limR_yes hk 2 (by omega) (by omega) e)
          rw [HL.out]
          rw [e] at k2 CI
          rw [hk] at k1
          clear hs hk e HJ
          go_enter Try.func61, Try.ntmps61
          go_wp2_with fail
          refine (CR.out _).mono ?_; rintro _ w1 ⟨rfl, he1⟩
          go_wp2_with fail
          refine (CI.out _).mono ?_; rintro _ w2 ⟨rfl, he2⟩
          have e2 := he1.trans he2
          go_wp2_with fail
          refine (l2PowerN_c 2 _ (by omega) (by omega)).mono ?_
          rintro _ w3 ⟨rfl, he3⟩
          have e3 := e2.trans he3
          go_wp2
          go_ret
          exact ⟨ret_i64 (by simp), eb.trans e3⟩
        · have HL := Lib.hid (limR_yes hk 3 (by omega) (by omega) e)
          rw [HL.out]
          rw [e] at k2 CI
          rw [hk] at k1
          clear hs hk e HJ
          go_enter Try.func61, Try.ntmps61
          go_wp2_with fail
          refine (CR.out _).mono ?_; rintro _ w1 ⟨rfl, he1⟩
          go_wp2_with fail
          refine (CI.out _).mono ?_; rintro _ w2 ⟨rfl, he2⟩
          have e2 := he1.trans he2
          go_wp2_with fail
          refine (l2PowerN_c 3 _ (by omega) (by omega)).mono ?_
          rintro _ w3 ⟨rfl, he3⟩
          have e3 := e2.trans he3
          go_wp2
          go_ret
          exact ⟨ret_i64 (by simp), eb.trans e3⟩
        · have HL := Lib.hid (limR_yes hk 4 (by omega) (by omega) e)
          rw [HL.out]
          rw [e] at k2 CI
          rw [hk] at k1
          clear hs hk e HJ
          go_enter Try.func61, Try.ntmps61
          go_wp2_with fail
          refine (CR.out _).mono ?_; rintro _ w1 ⟨rfl, he1⟩
          go_wp2_with fail
          refine (CI.out _).mono ?_; rintro _ w2 ⟨rfl, he2⟩
          have e2 := he1.trans he2
          go_wp2_with fail
          refine (l2PowerN_c 4 _ (by omega) (by omega)).mono ?_
          rintro _ w3 ⟨rfl, he3⟩
          have e3 := e2.trans he3
          go_wp2
          go_ret
          exact ⟨ret_i64 (by simp), eb.trans e3⟩
      · have CI := Lib.hid (fun w => l1In_c r.size 1 4 w)
        have HJ : Hid ((decide ((1 : Int) ≤ r.size) && decide (r.size ≤ 4)) = false) := by show _ = _; rw [Bool.and_eq_false_iff]; simp; omega
        rw [HJ.out] at CI
        have HL := Lib.hid (limR_size hs)
        rw [HL.out]
        rw [hk] at k1
        clear hs hk HJ
        go_enter Try.func61, Try.ntmps61
        go_wp2_with fail
        refine (CR.out _).mono ?_; rintro _ w1 ⟨rfl, he1⟩
        go_wp2_with fail
        refine (CI.out _).mono ?_; rintro _ w2 ⟨rfl, he2⟩
        go_wp2
        go_ret
        exact ⟨rfl, eb.trans (he1.trans he2)⟩
    · have HL := Lib.hid (limR_kind hk)
      rw [HL.out]
      have hk1 : (r.kind != 1) = true := by simpa using hk
      go_enter Try.func61, Try.ntmps61
      go_wp2_with fail
      refine (CR.out _).mono ?_; rintro _ w1 ⟨rfl, he1⟩
      go_wp2
      go_ret
      exact ⟨rfl, eb.trans he1⟩
  · have HI : Hid ((decide ((0 : Int) ≤ i) && decide (i ≤ (ds.length : Int) - 1)) = false) := by show _ = _; rw [Bool.and_eq_false_iff]; simp; omega
    rw [HI.out] at CR
    have HL := Lib.hid (limD_out hin)
    rw [HL.out]
    clear hin
    go_enter Try.func61, Try.ntmps61
    go_wp2_with fail
    refine (CR.out _).mono ?_; rintro _ w1 ⟨rfl, he1⟩
    go_wp2
    go_ret
    exact ⟨rfl, eb.trans he1⟩
end Go.Proofs.Ytophjmphjdhjoaa

/- The fields that a rule may have. -/
namespace Go.Proofs.Ytophjmphjdhjoaa
open Go.RowKit Go.Sort

set_option maxHeartbeats 2000000 in
theorem iPlain1000_c (r : DRule) (Ab : Option Addr) (cb : Nat) (An : Option Addr) (cn : Nat) (At : Option Addr) (ct : Nat) (Ak : Option Addr) (ck : Nat) (kids : Int) (w : World) (hl : r.bytes.length ≤ 9223372036854775807 ∧ r.names.length ≤ 9223372036854775807 ∧ r.tags.length ≤ 9223372036854775807 ∧ r.kids.length ≤ 9223372036854775807) :
    Gives Try.prog 65 #[vrule r (.slice Ab r.bytes.length cb) (.slice An r.names.length cn) (.slice At r.tags.length ct) (.slice Ak r.kids.length ck), .bool true, .bool false, .bool false, .bool false, .int .i64 kids] w (.bool (plainB r true false false false kids)) := by
  obtain ⟨l1, l2, l3, l4⟩ := hl
  unfold plainB
  obtain ⟨nm, kind, size, little, bytes, names, tags, kd⟩ := r
  unfold vrule
  dsimp only at *
  cases g_bytes : (bytes.length == 0)
  · have k_bytes : (((bytes.length : Nat) : Int) == 0) = false := by simpa using g_bytes
    go_enter Try.func65, Try.ntmps65
    go_wp2
    go_ret
    exact ⟨ret_bool (by simp [*]), Ext_alloc _ (Ext.refl w)⟩
  have k_bytes : (((bytes.length : Nat) : Int) == 0) = true := by simpa using g_bytes
  cases g_names : (names.length == 0)
  · have k_names : (((names.length : Nat) : Int) == 0) = false := by simpa using g_names
    go_enter Try.func65, Try.ntmps65
    go_wp2
    go_ret
    exact ⟨ret_bool (by simp [*]), Ext_alloc _ (Ext.refl w)⟩
  have k_names : (((names.length : Nat) : Int) == 0) = true := by simpa using g_names
  cases g_tags : (tags.length == 0)
  · have k_tags : (((tags.length : Nat) : Int) == 0) = false := by simpa using g_tags
    go_enter Try.func65, Try.ntmps65
    go_wp2
    go_ret
    exact ⟨ret_bool (by simp [*]), Ext_alloc _ (Ext.refl w)⟩
  have k_tags : (((tags.length : Nat) : Int) == 0) = true := by simpa using g_tags
  by_cases hk : kids < 0
  · have dk : decide (kids < 0) = true := by simpa using hk
    go_enter Try.func65, Try.ntmps65
    go_wp2
    go_ret
    exact ⟨ret_bool (by simp [*]), Ext_alloc _ (Ext.refl w)⟩
  · have dk : decide (kids < 0) = false := by simpa using hk
    by_cases hq : ((kd.length : Int) = kids)
    · have k_kids : ((kd.length : Int) == kids) = true := by simpa using hq
      have HQ := Lib.hid hq; clear hq
      go_enter Try.func65, Try.ntmps65
      go_wp2
      go_ret
      exact ⟨ret_bool (by have := HQ.out; simp [*]), Ext_alloc _ (Ext.refl w)⟩
    · have k_kids : ((kd.length : Int) == kids) = false := by simpa using hq
      go_enter Try.func65, Try.ntmps65
      go_wp2
      go_ret
      exact ⟨ret_bool (by simp [*]), Ext_alloc _ (Ext.refl w)⟩
set_option maxHeartbeats 2000000 in
theorem iPlain0100_c (r : DRule) (Ab : Option Addr) (cb : Nat) (An : Option Addr) (cn : Nat) (At : Option Addr) (ct : Nat) (Ak : Option Addr) (ck : Nat) (kids : Int) (w : World) (hl : r.bytes.length ≤ 9223372036854775807 ∧ r.names.length ≤ 9223372036854775807 ∧ r.tags.length ≤ 9223372036854775807 ∧ r.kids.length ≤ 9223372036854775807) :
    Gives Try.prog 65 #[vrule r (.slice Ab r.bytes.length cb) (.slice An r.names.length cn) (.slice At r.tags.length ct) (.slice Ak r.kids.length ck), .bool false, .bool true, .bool false, .bool false, .int .i64 kids] w (.bool (plainB r false true false false kids)) := by
  obtain ⟨l1, l2, l3, l4⟩ := hl
  unfold plainB
  obtain ⟨nm, kind, size, little, bytes, names, tags, kd⟩ := r
  unfold vrule
  dsimp only at *
  cases g_size : (size == 0)
  · skip
    go_enter Try.func65, Try.ntmps65
    go_wp2
    go_ret
    exact ⟨ret_bool (by simp [*]), Ext_alloc _ (Ext.refl w)⟩
  cases g_names : (names.length == 0)
  · have k_names : (((names.length : Nat) : Int) == 0) = false := by simpa using g_names
    go_enter Try.func65, Try.ntmps65
    go_wp2
    go_ret
    exact ⟨ret_bool (by simp [*]), Ext_alloc _ (Ext.refl w)⟩
  have k_names : (((names.length : Nat) : Int) == 0) = true := by simpa using g_names
  cases g_tags : (tags.length == 0)
  · have k_tags : (((tags.length : Nat) : Int) == 0) = false := by simpa using g_tags
    go_enter Try.func65, Try.ntmps65
    go_wp2
    go_ret
    exact ⟨ret_bool (by simp [*]), Ext_alloc _ (Ext.refl w)⟩
  have k_tags : (((tags.length : Nat) : Int) == 0) = true := by simpa using g_tags
  by_cases hk : kids < 0
  · have dk : decide (kids < 0) = true := by simpa using hk
    go_enter Try.func65, Try.ntmps65
    go_wp2
    go_ret
    exact ⟨ret_bool (by simp [*]), Ext_alloc _ (Ext.refl w)⟩
  · have dk : decide (kids < 0) = false := by simpa using hk
    by_cases hq : ((kd.length : Int) = kids)
    · have k_kids : ((kd.length : Int) == kids) = true := by simpa using hq
      have HQ := Lib.hid hq; clear hq
      go_enter Try.func65, Try.ntmps65
      go_wp2
      go_ret
      exact ⟨ret_bool (by have := HQ.out; simp [*]), Ext_alloc _ (Ext.refl w)⟩
    · have k_kids : ((kd.length : Int) == kids) = false := by simpa using hq
      go_enter Try.func65, Try.ntmps65
      go_wp2
      go_ret
      exact ⟨ret_bool (by simp [*]), Ext_alloc _ (Ext.refl w)⟩
set_option maxHeartbeats 2000000 in
theorem iPlain0000_c (r : DRule) (Ab : Option Addr) (cb : Nat) (An : Option Addr) (cn : Nat) (At : Option Addr) (ct : Nat) (Ak : Option Addr) (ck : Nat) (kids : Int) (w : World) (hl : r.bytes.length ≤ 9223372036854775807 ∧ r.names.length ≤ 9223372036854775807 ∧ r.tags.length ≤ 9223372036854775807 ∧ r.kids.length ≤ 9223372036854775807) :
    Gives Try.prog 65 #[vrule r (.slice Ab r.bytes.length cb) (.slice An r.names.length cn) (.slice At r.tags.length ct) (.slice Ak r.kids.length ck), .bool false, .bool false, .bool false, .bool false, .int .i64 kids] w (.bool (plainB r false false false false kids)) := by
  obtain ⟨l1, l2, l3, l4⟩ := hl
  unfold plainB
  obtain ⟨nm, kind, size, little, bytes, names, tags, kd⟩ := r
  unfold vrule
  dsimp only at *
  cases g_size : (size == 0)
  · skip
    go_enter Try.func65, Try.ntmps65
    go_wp2
    go_ret
    exact ⟨ret_bool (by simp [*]), Ext_alloc _ (Ext.refl w)⟩
  cases g_bytes : (bytes.length == 0)
  · have k_bytes : (((bytes.length : Nat) : Int) == 0) = false := by simpa using g_bytes
    go_enter Try.func65, Try.ntmps65
    go_wp2
    go_ret
    exact ⟨ret_bool (by simp [*]), Ext_alloc _ (Ext.refl w)⟩
  have k_bytes : (((bytes.length : Nat) : Int) == 0) = true := by simpa using g_bytes
  cases g_names : (names.length == 0)
  · have k_names : (((names.length : Nat) : Int) == 0) = false := by simpa using g_names
    go_enter Try.func65, Try.ntmps65
    go_wp2
    go_ret
    exact ⟨ret_bool (by simp [*]), Ext_alloc _ (Ext.refl w)⟩
  have k_names : (((names.length : Nat) : Int) == 0) = true := by simpa using g_names
  cases g_tags : (tags.length == 0)
  · have k_tags : (((tags.length : Nat) : Int) == 0) = false := by simpa using g_tags
    go_enter Try.func65, Try.ntmps65
    go_wp2
    go_ret
    exact ⟨ret_bool (by simp [*]), Ext_alloc _ (Ext.refl w)⟩
  have k_tags : (((tags.length : Nat) : Int) == 0) = true := by simpa using g_tags
  by_cases hk : kids < 0
  · have dk : decide (kids < 0) = true := by simpa using hk
    go_enter Try.func65, Try.ntmps65
    go_wp2
    go_ret
    exact ⟨ret_bool (by simp [*]), Ext_alloc _ (Ext.refl w)⟩
  · have dk : decide (kids < 0) = false := by simpa using hk
    by_cases hq : ((kd.length : Int) = kids)
    · have k_kids : ((kd.length : Int) == kids) = true := by simpa using hq
      have HQ := Lib.hid hq; clear hq
      go_enter Try.func65, Try.ntmps65
      go_wp2
      go_ret
      exact ⟨ret_bool (by have := HQ.out; simp [*]), Ext_alloc _ (Ext.refl w)⟩
    · have k_kids : ((kd.length : Int) == kids) = false := by simpa using hq
      go_enter Try.func65, Try.ntmps65
      go_wp2
      go_ret
      exact ⟨ret_bool (by simp [*]), Ext_alloc _ (Ext.refl w)⟩
set_option maxHeartbeats 2000000 in
theorem iPlain0010_c (r : DRule) (Ab : Option Addr) (cb : Nat) (An : Option Addr) (cn : Nat) (At : Option Addr) (ct : Nat) (Ak : Option Addr) (ck : Nat) (kids : Int) (w : World) (hl : r.bytes.length ≤ 9223372036854775807 ∧ r.names.length ≤ 9223372036854775807 ∧ r.tags.length ≤ 9223372036854775807 ∧ r.kids.length ≤ 9223372036854775807) :
    Gives Try.prog 65 #[vrule r (.slice Ab r.bytes.length cb) (.slice An r.names.length cn) (.slice At r.tags.length ct) (.slice Ak r.kids.length ck), .bool false, .bool false, .bool true, .bool false, .int .i64 kids] w (.bool (plainB r false false true false kids)) := by
  obtain ⟨l1, l2, l3, l4⟩ := hl
  unfold plainB
  obtain ⟨nm, kind, size, little, bytes, names, tags, kd⟩ := r
  unfold vrule
  dsimp only at *
  cases g_size : (size == 0)
  · skip
    go_enter Try.func65, Try.ntmps65
    go_wp2
    go_ret
    exact ⟨ret_bool (by simp [*]), Ext_alloc _ (Ext.refl w)⟩
  cases g_bytes : (bytes.length == 0)
  · have k_bytes : (((bytes.length : Nat) : Int) == 0) = false := by simpa using g_bytes
    go_enter Try.func65, Try.ntmps65
    go_wp2
    go_ret
    exact ⟨ret_bool (by simp [*]), Ext_alloc _ (Ext.refl w)⟩
  have k_bytes : (((bytes.length : Nat) : Int) == 0) = true := by simpa using g_bytes
  cases g_tags : (tags.length == 0)
  · have k_tags : (((tags.length : Nat) : Int) == 0) = false := by simpa using g_tags
    go_enter Try.func65, Try.ntmps65
    go_wp2
    go_ret
    exact ⟨ret_bool (by simp [*]), Ext_alloc _ (Ext.refl w)⟩
  have k_tags : (((tags.length : Nat) : Int) == 0) = true := by simpa using g_tags
  by_cases hk : kids < 0
  · have dk : decide (kids < 0) = true := by simpa using hk
    go_enter Try.func65, Try.ntmps65
    go_wp2
    go_ret
    exact ⟨ret_bool (by simp [*]), Ext_alloc _ (Ext.refl w)⟩
  · have dk : decide (kids < 0) = false := by simpa using hk
    by_cases hq : ((kd.length : Int) = kids)
    · have k_kids : ((kd.length : Int) == kids) = true := by simpa using hq
      have HQ := Lib.hid hq; clear hq
      go_enter Try.func65, Try.ntmps65
      go_wp2
      go_ret
      exact ⟨ret_bool (by have := HQ.out; simp [*]), Ext_alloc _ (Ext.refl w)⟩
    · have k_kids : ((kd.length : Int) == kids) = false := by simpa using hq
      go_enter Try.func65, Try.ntmps65
      go_wp2
      go_ret
      exact ⟨ret_bool (by simp [*]), Ext_alloc _ (Ext.refl w)⟩
set_option maxHeartbeats 2000000 in
theorem iPlain0001_c (r : DRule) (Ab : Option Addr) (cb : Nat) (An : Option Addr) (cn : Nat) (At : Option Addr) (ct : Nat) (Ak : Option Addr) (ck : Nat) (kids : Int) (w : World) (hl : r.bytes.length ≤ 9223372036854775807 ∧ r.names.length ≤ 9223372036854775807 ∧ r.tags.length ≤ 9223372036854775807 ∧ r.kids.length ≤ 9223372036854775807) :
    Gives Try.prog 65 #[vrule r (.slice Ab r.bytes.length cb) (.slice An r.names.length cn) (.slice At r.tags.length ct) (.slice Ak r.kids.length ck), .bool false, .bool false, .bool false, .bool true, .int .i64 kids] w (.bool (plainB r false false false true kids)) := by
  obtain ⟨l1, l2, l3, l4⟩ := hl
  unfold plainB
  obtain ⟨nm, kind, size, little, bytes, names, tags, kd⟩ := r
  unfold vrule
  dsimp only at *
  cases g_size : (size == 0)
  · skip
    go_enter Try.func65, Try.ntmps65
    go_wp2
    go_ret
    exact ⟨ret_bool (by simp [*]), Ext_alloc _ (Ext.refl w)⟩
  cases g_bytes : (bytes.length == 0)
  · have k_bytes : (((bytes.length : Nat) : Int) == 0) = false := by simpa using g_bytes
    go_enter Try.func65, Try.ntmps65
    go_wp2
    go_ret
    exact ⟨ret_bool (by simp [*]), Ext_alloc _ (Ext.refl w)⟩
  have k_bytes : (((bytes.length : Nat) : Int) == 0) = true := by simpa using g_bytes
  cases g_names : (names.length == 0)
  · have k_names : (((names.length : Nat) : Int) == 0) = false := by simpa using g_names
    go_enter Try.func65, Try.ntmps65
    go_wp2
    go_ret
    exact ⟨ret_bool (by simp [*]), Ext_alloc _ (Ext.refl w)⟩
  have k_names : (((names.length : Nat) : Int) == 0) = true := by simpa using g_names
  by_cases hk : kids < 0
  · have dk : decide (kids < 0) = true := by simpa using hk
    go_enter Try.func65, Try.ntmps65
    go_wp2
    go_ret
    exact ⟨ret_bool (by simp [*]), Ext_alloc _ (Ext.refl w)⟩
  · have dk : decide (kids < 0) = false := by simpa using hk
    by_cases hq : ((kd.length : Int) = kids)
    · have k_kids : ((kd.length : Int) == kids) = true := by simpa using hq
      have HQ := Lib.hid hq; clear hq
      go_enter Try.func65, Try.ntmps65
      go_wp2
      go_ret
      exact ⟨ret_bool (by have := HQ.out; simp [*]), Ext_alloc _ (Ext.refl w)⟩
    · have k_kids : ((kd.length : Int) == kids) = false := by simpa using hq
      go_enter Try.func65, Try.ntmps65
      go_wp2
      go_ret
      exact ⟨ret_bool (by simp [*]), Ext_alloc _ (Ext.refl w)⟩
end Go.Proofs.Ytophjmphjdhjoaa

/- The fields that a rule may have, of the reference. -/
namespace Go.Proofs.Ytophjmphjdhjoaa
open Go.RowKit Go.Sort

set_option maxHeartbeats 2000000 in
theorem sShape1000_c (r : DRule) (Ab : Option Addr) (cb : Nat) (An : Option Addr) (cn : Nat) (At : Option Addr) (ct : Nat) (Ak : Option Addr) (ck : Nat) (kids : Int) (w : World) (hl : r.bytes.length ≤ 9223372036854775807 ∧ r.names.length ≤ 9223372036854775807 ∧ r.tags.length ≤ 9223372036854775807 ∧ r.kids.length ≤ 9223372036854775807) :
    Gives Try.prog 60 #[vrule r (.slice Ab r.bytes.length cb) (.slice An r.names.length cn) (.slice At r.tags.length ct) (.slice Ak r.kids.length ck), .bool true, .bool false, .bool false, .bool false, .int .i64 kids] w (.bool (plainB r true false false false kids && (!r.little || r.kind == 1))) := by
  obtain ⟨l1, l2, l3, l4⟩ := hl
  unfold plainB
  obtain ⟨nm, kind, size, little, bytes, names, tags, kd⟩ := r
  unfold vrule
  dsimp only at *
  cases g_bytes : (bytes.length == 0)
  · have k_bytes : (((bytes.length : Nat) : Int) == 0) = false := by simpa using g_bytes
    go_enter Try.func60, Try.ntmps60
    go_wp2
    go_ret
    exact ⟨ret_bool (by simp [*]), Ext_alloc _ (Ext.refl w)⟩
  have k_bytes : (((bytes.length : Nat) : Int) == 0) = true := by simpa using g_bytes
  cases g_names : (names.length == 0)
  · have k_names : (((names.length : Nat) : Int) == 0) = false := by simpa using g_names
    go_enter Try.func60, Try.ntmps60
    go_wp2
    go_ret
    exact ⟨ret_bool (by simp [*]), Ext_alloc _ (Ext.refl w)⟩
  have k_names : (((names.length : Nat) : Int) == 0) = true := by simpa using g_names
  cases g_tags : (tags.length == 0)
  · have k_tags : (((tags.length : Nat) : Int) == 0) = false := by simpa using g_tags
    go_enter Try.func60, Try.ntmps60
    go_wp2
    go_ret
    exact ⟨ret_bool (by simp [*]), Ext_alloc _ (Ext.refl w)⟩
  have k_tags : (((tags.length : Nat) : Int) == 0) = true := by simpa using g_tags
  by_cases hk : kids < 0
  · have dk : decide (kids < 0) = true := by simpa using hk
    cases little
    · go_enter Try.func60, Try.ntmps60
      go_wp2
      go_ret
      exact ⟨ret_bool (by simp [*]), Ext_alloc _ (Ext.refl w)⟩
    · cases g_kind : (kind == 1)
      all_goals
        go_enter Try.func60, Try.ntmps60
        go_wp2
        go_ret
        exact ⟨ret_bool (by simp [*]), Ext_alloc _ (Ext.refl w)⟩
  · have dk : decide (kids < 0) = false := by simpa using hk
    by_cases hq : ((kd.length : Int) = kids)
    · have k_kids : ((kd.length : Int) == kids) = true := by simpa using hq
      have HQ := Lib.hid hq; clear hq
      cases little
      · go_enter Try.func60, Try.ntmps60
        go_wp2
        go_ret
        exact ⟨ret_bool (by have := HQ.out; simp [*]), Ext_alloc _ (Ext.refl w)⟩
      · cases g_kind : (kind == 1)
        all_goals
          go_enter Try.func60, Try.ntmps60
          go_wp2
          go_ret
          exact ⟨ret_bool (by have := HQ.out; simp [*]), Ext_alloc _ (Ext.refl w)⟩
    · have k_kids : ((kd.length : Int) == kids) = false := by simpa using hq
      go_enter Try.func60, Try.ntmps60
      go_wp2
      go_ret
      exact ⟨ret_bool (by simp [*]), Ext_alloc _ (Ext.refl w)⟩
set_option maxHeartbeats 2000000 in
theorem sShape0100_c (r : DRule) (Ab : Option Addr) (cb : Nat) (An : Option Addr) (cn : Nat) (At : Option Addr) (ct : Nat) (Ak : Option Addr) (ck : Nat) (kids : Int) (w : World) (hl : r.bytes.length ≤ 9223372036854775807 ∧ r.names.length ≤ 9223372036854775807 ∧ r.tags.length ≤ 9223372036854775807 ∧ r.kids.length ≤ 9223372036854775807) :
    Gives Try.prog 60 #[vrule r (.slice Ab r.bytes.length cb) (.slice An r.names.length cn) (.slice At r.tags.length ct) (.slice Ak r.kids.length ck), .bool false, .bool true, .bool false, .bool false, .int .i64 kids] w (.bool (plainB r false true false false kids && (!r.little || r.kind == 1))) := by
  obtain ⟨l1, l2, l3, l4⟩ := hl
  unfold plainB
  obtain ⟨nm, kind, size, little, bytes, names, tags, kd⟩ := r
  unfold vrule
  dsimp only at *
  cases g_size : (size == 0)
  · skip
    go_enter Try.func60, Try.ntmps60
    go_wp2
    go_ret
    exact ⟨ret_bool (by simp [*]), Ext_alloc _ (Ext.refl w)⟩
  cases g_names : (names.length == 0)
  · have k_names : (((names.length : Nat) : Int) == 0) = false := by simpa using g_names
    go_enter Try.func60, Try.ntmps60
    go_wp2
    go_ret
    exact ⟨ret_bool (by simp [*]), Ext_alloc _ (Ext.refl w)⟩
  have k_names : (((names.length : Nat) : Int) == 0) = true := by simpa using g_names
  cases g_tags : (tags.length == 0)
  · have k_tags : (((tags.length : Nat) : Int) == 0) = false := by simpa using g_tags
    go_enter Try.func60, Try.ntmps60
    go_wp2
    go_ret
    exact ⟨ret_bool (by simp [*]), Ext_alloc _ (Ext.refl w)⟩
  have k_tags : (((tags.length : Nat) : Int) == 0) = true := by simpa using g_tags
  by_cases hk : kids < 0
  · have dk : decide (kids < 0) = true := by simpa using hk
    cases little
    · go_enter Try.func60, Try.ntmps60
      go_wp2
      go_ret
      exact ⟨ret_bool (by simp [*]), Ext_alloc _ (Ext.refl w)⟩
    · cases g_kind : (kind == 1)
      all_goals
        go_enter Try.func60, Try.ntmps60
        go_wp2
        go_ret
        exact ⟨ret_bool (by simp [*]), Ext_alloc _ (Ext.refl w)⟩
  · have dk : decide (kids < 0) = false := by simpa using hk
    by_cases hq : ((kd.length : Int) = kids)
    · have k_kids : ((kd.length : Int) == kids) = true := by simpa using hq
      have HQ := Lib.hid hq; clear hq
      cases little
      · go_enter Try.func60, Try.ntmps60
        go_wp2
        go_ret
        exact ⟨ret_bool (by have := HQ.out; simp [*]), Ext_alloc _ (Ext.refl w)⟩
      · cases g_kind : (kind == 1)
        all_goals
          go_enter Try.func60, Try.ntmps60
          go_wp2
          go_ret
          exact ⟨ret_bool (by have := HQ.out; simp [*]), Ext_alloc _ (Ext.refl w)⟩
    · have k_kids : ((kd.length : Int) == kids) = false := by simpa using hq
      go_enter Try.func60, Try.ntmps60
      go_wp2
      go_ret
      exact ⟨ret_bool (by simp [*]), Ext_alloc _ (Ext.refl w)⟩
set_option maxHeartbeats 2000000 in
theorem sShape0000_c (r : DRule) (Ab : Option Addr) (cb : Nat) (An : Option Addr) (cn : Nat) (At : Option Addr) (ct : Nat) (Ak : Option Addr) (ck : Nat) (kids : Int) (w : World) (hl : r.bytes.length ≤ 9223372036854775807 ∧ r.names.length ≤ 9223372036854775807 ∧ r.tags.length ≤ 9223372036854775807 ∧ r.kids.length ≤ 9223372036854775807) :
    Gives Try.prog 60 #[vrule r (.slice Ab r.bytes.length cb) (.slice An r.names.length cn) (.slice At r.tags.length ct) (.slice Ak r.kids.length ck), .bool false, .bool false, .bool false, .bool false, .int .i64 kids] w (.bool (plainB r false false false false kids && (!r.little || r.kind == 1))) := by
  obtain ⟨l1, l2, l3, l4⟩ := hl
  unfold plainB
  obtain ⟨nm, kind, size, little, bytes, names, tags, kd⟩ := r
  unfold vrule
  dsimp only at *
  cases g_size : (size == 0)
  · skip
    go_enter Try.func60, Try.ntmps60
    go_wp2
    go_ret
    exact ⟨ret_bool (by simp [*]), Ext_alloc _ (Ext.refl w)⟩
  cases g_bytes : (bytes.length == 0)
  · have k_bytes : (((bytes.length : Nat) : Int) == 0) = false := by simpa using g_bytes
    go_enter Try.func60, Try.ntmps60
    go_wp2
    go_ret
    exact ⟨ret_bool (by simp [*]), Ext_alloc _ (Ext.refl w)⟩
  have k_bytes : (((bytes.length : Nat) : Int) == 0) = true := by simpa using g_bytes
  cases g_names : (names.length == 0)
  · have k_names : (((names.length : Nat) : Int) == 0) = false := by simpa using g_names
    go_enter Try.func60, Try.ntmps60
    go_wp2
    go_ret
    exact ⟨ret_bool (by simp [*]), Ext_alloc _ (Ext.refl w)⟩
  have k_names : (((names.length : Nat) : Int) == 0) = true := by simpa using g_names
  cases g_tags : (tags.length == 0)
  · have k_tags : (((tags.length : Nat) : Int) == 0) = false := by simpa using g_tags
    go_enter Try.func60, Try.ntmps60
    go_wp2
    go_ret
    exact ⟨ret_bool (by simp [*]), Ext_alloc _ (Ext.refl w)⟩
  have k_tags : (((tags.length : Nat) : Int) == 0) = true := by simpa using g_tags
  by_cases hk : kids < 0
  · have dk : decide (kids < 0) = true := by simpa using hk
    cases little
    · go_enter Try.func60, Try.ntmps60
      go_wp2
      go_ret
      exact ⟨ret_bool (by simp [*]), Ext_alloc _ (Ext.refl w)⟩
    · cases g_kind : (kind == 1)
      all_goals
        go_enter Try.func60, Try.ntmps60
        go_wp2
        go_ret
        exact ⟨ret_bool (by simp [*]), Ext_alloc _ (Ext.refl w)⟩
  · have dk : decide (kids < 0) = false := by simpa using hk
    by_cases hq : ((kd.length : Int) = kids)
    · have k_kids : ((kd.length : Int) == kids) = true := by simpa using hq
      have HQ := Lib.hid hq; clear hq
      cases little
      · go_enter Try.func60, Try.ntmps60
        go_wp2
        go_ret
        exact ⟨ret_bool (by have := HQ.out; simp [*]), Ext_alloc _ (Ext.refl w)⟩
      · cases g_kind : (kind == 1)
        all_goals
          go_enter Try.func60, Try.ntmps60
          go_wp2
          go_ret
          exact ⟨ret_bool (by have := HQ.out; simp [*]), Ext_alloc _ (Ext.refl w)⟩
    · have k_kids : ((kd.length : Int) == kids) = false := by simpa using hq
      go_enter Try.func60, Try.ntmps60
      go_wp2
      go_ret
      exact ⟨ret_bool (by simp [*]), Ext_alloc _ (Ext.refl w)⟩
set_option maxHeartbeats 2000000 in
theorem sShape0010_c (r : DRule) (Ab : Option Addr) (cb : Nat) (An : Option Addr) (cn : Nat) (At : Option Addr) (ct : Nat) (Ak : Option Addr) (ck : Nat) (kids : Int) (w : World) (hl : r.bytes.length ≤ 9223372036854775807 ∧ r.names.length ≤ 9223372036854775807 ∧ r.tags.length ≤ 9223372036854775807 ∧ r.kids.length ≤ 9223372036854775807) :
    Gives Try.prog 60 #[vrule r (.slice Ab r.bytes.length cb) (.slice An r.names.length cn) (.slice At r.tags.length ct) (.slice Ak r.kids.length ck), .bool false, .bool false, .bool true, .bool false, .int .i64 kids] w (.bool (plainB r false false true false kids && (!r.little || r.kind == 1))) := by
  obtain ⟨l1, l2, l3, l4⟩ := hl
  unfold plainB
  obtain ⟨nm, kind, size, little, bytes, names, tags, kd⟩ := r
  unfold vrule
  dsimp only at *
  cases g_size : (size == 0)
  · skip
    go_enter Try.func60, Try.ntmps60
    go_wp2
    go_ret
    exact ⟨ret_bool (by simp [*]), Ext_alloc _ (Ext.refl w)⟩
  cases g_bytes : (bytes.length == 0)
  · have k_bytes : (((bytes.length : Nat) : Int) == 0) = false := by simpa using g_bytes
    go_enter Try.func60, Try.ntmps60
    go_wp2
    go_ret
    exact ⟨ret_bool (by simp [*]), Ext_alloc _ (Ext.refl w)⟩
  have k_bytes : (((bytes.length : Nat) : Int) == 0) = true := by simpa using g_bytes
  cases g_tags : (tags.length == 0)
  · have k_tags : (((tags.length : Nat) : Int) == 0) = false := by simpa using g_tags
    go_enter Try.func60, Try.ntmps60
    go_wp2
    go_ret
    exact ⟨ret_bool (by simp [*]), Ext_alloc _ (Ext.refl w)⟩
  have k_tags : (((tags.length : Nat) : Int) == 0) = true := by simpa using g_tags
  by_cases hk : kids < 0
  · have dk : decide (kids < 0) = true := by simpa using hk
    cases little
    · go_enter Try.func60, Try.ntmps60
      go_wp2
      go_ret
      exact ⟨ret_bool (by simp [*]), Ext_alloc _ (Ext.refl w)⟩
    · cases g_kind : (kind == 1)
      all_goals
        go_enter Try.func60, Try.ntmps60
        go_wp2
        go_ret
        exact ⟨ret_bool (by simp [*]), Ext_alloc _ (Ext.refl w)⟩
  · have dk : decide (kids < 0) = false := by simpa using hk
    by_cases hq : ((kd.length : Int) = kids)
    · have k_kids : ((kd.length : Int) == kids) = true := by simpa using hq
      have HQ := Lib.hid hq; clear hq
      cases little
      · go_enter Try.func60, Try.ntmps60
        go_wp2
        go_ret
        exact ⟨ret_bool (by have := HQ.out; simp [*]), Ext_alloc _ (Ext.refl w)⟩
      · cases g_kind : (kind == 1)
        all_goals
          go_enter Try.func60, Try.ntmps60
          go_wp2
          go_ret
          exact ⟨ret_bool (by have := HQ.out; simp [*]), Ext_alloc _ (Ext.refl w)⟩
    · have k_kids : ((kd.length : Int) == kids) = false := by simpa using hq
      go_enter Try.func60, Try.ntmps60
      go_wp2
      go_ret
      exact ⟨ret_bool (by simp [*]), Ext_alloc _ (Ext.refl w)⟩
set_option maxHeartbeats 2000000 in
theorem sShape0001_c (r : DRule) (Ab : Option Addr) (cb : Nat) (An : Option Addr) (cn : Nat) (At : Option Addr) (ct : Nat) (Ak : Option Addr) (ck : Nat) (kids : Int) (w : World) (hl : r.bytes.length ≤ 9223372036854775807 ∧ r.names.length ≤ 9223372036854775807 ∧ r.tags.length ≤ 9223372036854775807 ∧ r.kids.length ≤ 9223372036854775807) :
    Gives Try.prog 60 #[vrule r (.slice Ab r.bytes.length cb) (.slice An r.names.length cn) (.slice At r.tags.length ct) (.slice Ak r.kids.length ck), .bool false, .bool false, .bool false, .bool true, .int .i64 kids] w (.bool (plainB r false false false true kids && (!r.little || r.kind == 1))) := by
  obtain ⟨l1, l2, l3, l4⟩ := hl
  unfold plainB
  obtain ⟨nm, kind, size, little, bytes, names, tags, kd⟩ := r
  unfold vrule
  dsimp only at *
  cases g_size : (size == 0)
  · skip
    go_enter Try.func60, Try.ntmps60
    go_wp2
    go_ret
    exact ⟨ret_bool (by simp [*]), Ext_alloc _ (Ext.refl w)⟩
  cases g_bytes : (bytes.length == 0)
  · have k_bytes : (((bytes.length : Nat) : Int) == 0) = false := by simpa using g_bytes
    go_enter Try.func60, Try.ntmps60
    go_wp2
    go_ret
    exact ⟨ret_bool (by simp [*]), Ext_alloc _ (Ext.refl w)⟩
  have k_bytes : (((bytes.length : Nat) : Int) == 0) = true := by simpa using g_bytes
  cases g_names : (names.length == 0)
  · have k_names : (((names.length : Nat) : Int) == 0) = false := by simpa using g_names
    go_enter Try.func60, Try.ntmps60
    go_wp2
    go_ret
    exact ⟨ret_bool (by simp [*]), Ext_alloc _ (Ext.refl w)⟩
  have k_names : (((names.length : Nat) : Int) == 0) = true := by simpa using g_names
  by_cases hk : kids < 0
  · have dk : decide (kids < 0) = true := by simpa using hk
    cases little
    · go_enter Try.func60, Try.ntmps60
      go_wp2
      go_ret
      exact ⟨ret_bool (by simp [*]), Ext_alloc _ (Ext.refl w)⟩
    · cases g_kind : (kind == 1)
      all_goals
        go_enter Try.func60, Try.ntmps60
        go_wp2
        go_ret
        exact ⟨ret_bool (by simp [*]), Ext_alloc _ (Ext.refl w)⟩
  · have dk : decide (kids < 0) = false := by simpa using hk
    by_cases hq : ((kd.length : Int) = kids)
    · have k_kids : ((kd.length : Int) == kids) = true := by simpa using hq
      have HQ := Lib.hid hq; clear hq
      cases little
      · go_enter Try.func60, Try.ntmps60
        go_wp2
        go_ret
        exact ⟨ret_bool (by have := HQ.out; simp [*]), Ext_alloc _ (Ext.refl w)⟩
      · cases g_kind : (kind == 1)
        all_goals
          go_enter Try.func60, Try.ntmps60
          go_wp2
          go_ret
          exact ⟨ret_bool (by have := HQ.out; simp [*]), Ext_alloc _ (Ext.refl w)⟩
    · have k_kids : ((kd.length : Int) == kids) = false := by simpa using hq
      go_enter Try.func60, Try.ntmps60
      go_wp2
      go_ret
      exact ⟨ret_bool (by simp [*]), Ext_alloc _ (Ext.refl w)⟩
end Go.Proofs.Ytophjmphjdhjoaa

/- Sequences and choices. -/
namespace Go.Proofs.Ytophjmphjdhjoaa
open Go.RowKit Go.Sort

theorem RdS.lens {w : World} {r : DRule} {Ab : Option Addr} {cb : Nat} {An : Option Addr} {cn : Nat} {At : Option Addr} {ct : Nat} {Ak : Option Addr} {ck : Nat} (h : RdS w r Ab cb An cn At ct Ak ck) :
    r.bytes.length ≤ 9223372036854775807 ∧ r.names.length ≤ 9223372036854775807 ∧ r.tags.length ≤ 9223372036854775807 ∧ r.kids.length ≤ 9223372036854775807 := ⟨h.b.len, h.n.len, h.t.len, h.k.len⟩
theorem Rd0.take {α : Type} {f : α → Value} {w : World} {A : Option Addr} {l : List α} {c : Nat} (h : Rd0 f w A l c) (n : Nat) (hn : n ≤ l.length) : Rd0 f w A (l.take n) c := by
  have hl : (l.take n).length = n := by simp; omega
  refine ⟨by have := h.cap; omega, by have := h.len; omega, fun hp => ?_⟩
  obtain ⟨b, off, h1, h2, h3⟩ := h.2.2 (by omega)
  refine ⟨b, off, h1, h2, fun w' e i hi => ?_⟩
  rw [h3 w' e i (by omega)]
  simp
theorem nameOk_at {l : List ByteArray} {k : Nat} (h : k < l.length) : nameOk l k = (isName l[k] && !hasNm (l.take k) l[k]) := by
  unfold nameOk; rw [List.getElem?_eq_getElem h]
theorem tagOk_at {lim : Int} {l : List Int} {k : Nat} (h : k < l.length) : tagOk lim l k = (between l[k] 0 lim && (k == 0 || decide (l.getD (k - 1) 0 < l[k]))) := by
  unfold tagOk; rw [List.getElem?_eq_getElem h]
/-- the names of a sequence, of the reference -/
def namesB (l : List ByteArray) : Bool := between l.length 1 8 && allN l.length (nameOk l)
set_option maxRecDepth 100000 in
set_option maxHeartbeats 2000000 in
theorem sNames_c (A : Option Addr) (l : List ByteArray) (c : Nat) (w : World) (h : Rd0 vstr w A l c) (hw : ∀ s ∈ l, s.size ≤ 9223372036854775807) :
    Gives Try.prog 62 #[.slice A l.length c] w (.bool (namesB l)) := by
  have hl := h.len
  have hcap := h.cap
  go_enter Try.func62, Try.ntmps62
  go_wp2
  go_loopw [3] (fun i wr => ∃ k : Nat, k ≤ l.length ∧ i = .int .i64 k ∧ Hid (∀ j, j < k → nameOk l j = true) ∧ Ext w wr) (fun i _ => l.length - (intOf i).toNat)
  case atStart => exact ⟨0, by omega, rfl, (fun j hj => by omega), Ext.refl _⟩
  case round =>
    obtain ⟨k, hk, rfl, ht, he⟩ := hrel
    by_cases hlt : k < l.length
    · obtain ⟨b, off, hA, hb, hc⟩ := h.at k hlt
      have HT := h.take k (by omega)
      have HN := Lib.hid (nameOk_at hlt)
      have NO : Hid (nameOk l k = false → namesB l = false) := fun hf => by unfold namesB; rw [allN_no hlt hf, Bool.and_false]
      have YES : Hid (nameOk l k = true → ∀ j, j < k + 1 → nameOk l j = true) := upTo ht.out
      have CN := Lib.hid (fun w => sIsName_c l[k] w (hw _ (List.getElem_mem hlt)))
      have hlk : (l.take k).length = k := by simp; omega
      have CC : Hid (∀ w' s, Ext w w' → Gives Try.prog 11 #[.slice A k c, .string s] w' (.bool (hasNm (l.take k) s))) := fun w' s e => by
        have := sContains_c A (l.take k) c s w' (HT.ext e)
        rwa [hlk] at this
      subst hA
      generalize l[k] = x at *
      generalize isName x = q1 at *
      have hc0 : (0 : Int) ≤ (k : Int) := by omega
      have hc1 : (k : Int) ≤ (c : Int) := by omega
      clear HT h hlk
      cases q1
      · have HR : Hid (nameOk l k = false) := by show _ = _; rw [HN.out]; rfl
        have HE := Lib.hid (NO.out HR.out)
        clear NO YES HN HR
        go_wp2_with fail
        refine wp_region_quiet_below (by kernel_rfl) (by kernel_rfl) ?_
        repeat (go_big_quiet_step ((go_at_call 50; exact Calls.regrown_of (CN.out _))))
        refine wpQuiet_nil ?_
        rintro w1 ⟨⟨nq, osq⟩, hq⟩
        have ew1 := ext_of_q hq
        clear hq nq osq
        go_wp2
        go_ret
        exact ⟨ret_bool HE.out.symm, he.trans ew1⟩
      · have CD := Lib.hid (fun w' e => CC.out w' x e)
        generalize hasNm (l.take k) x = q2 at *
        cases q2
        · have HR : Hid (nameOk l k = true) := by show _ = _; rw [HN.out]; rfl
          have HE := Lib.hid (YES.out HR.out)
          clear NO YES HN HR CC
          go_wp2_with fail
          refine wp_region_quiet_below (by kernel_rfl) (by kernel_rfl) ?_
          repeat (go_big_quiet_step ((first | (go_at_call 50; exact Calls.regrown_of (CN.out _)) | (go_at_call 11; exact Calls.regrown_of (CD.out _ (by first | assumption | exact Ext_regrown _ _ he))))))
          refine wpQuiet_nil ?_
          rintro w1 ⟨⟨nq, osq⟩, hq⟩
          have ew1 := ext_of_q hq
          clear hq nq osq
          go_wp2
          go_roundw
          case rel => exact ⟨k+1, by omega, by go_num, HE.out, he.trans ew1⟩
          case measure => simp [intOf]; omega
        · have HR : Hid (nameOk l k = false) := by show _ = _; rw [HN.out]; rfl
          have HE := Lib.hid (NO.out HR.out)
          clear NO YES HN HR CC
          go_wp2_with fail
          refine wp_region_quiet_below (by kernel_rfl) (by kernel_rfl) ?_
          repeat (go_big_quiet_step ((first | (go_at_call 50; exact Calls.regrown_of (CN.out _)) | (go_at_call 11; exact Calls.regrown_of (CD.out _ (by first | assumption | exact Ext_regrown _ _ he))))))
          refine wpQuiet_nil ?_
          rintro w1 ⟨⟨nq, osq⟩, hq⟩
          have ew1 := ext_of_q hq
          clear hq nq osq
          go_wp2
          go_ret
          exact ⟨ret_bool HE.out.symm, he.trans ew1⟩
    · have HE : Hid (namesB l = (decide ((1 : Int) ≤ (l.length : Int)) && decide ((l.length : Int) ≤ 8))) := by
        show _ = _; unfold namesB between; rw [allN_yes (fun j hj => ht.out j (by omega)), Bool.and_true]
      go_wp2_with (go_at_call 34; refine (l1In_c _ _ _ _).mono ?_; rintro _ w1 ⟨rfl, he1⟩)
      go_ret
      exact ⟨ret_bool HE.out.symm, he.trans he1⟩
set_option maxRecDepth 100000 in
set_option maxHeartbeats 4000000 in
theorem iSeq_c (r : DRule) (Ab : Option Addr) (cb : Nat) (An : Option Addr) (cn : Nat) (At : Option Addr) (ct : Nat) (Ak : Option Addr) (ck : Nat) (w : World) (h : RdS w r Ab cb An cn At ct Ak ck) (hw : WfR r) :
    Gives Try.prog 67 #[vrule r (.slice Ab r.bytes.length cb) (.slice An r.names.length cn) (.slice At r.tags.length ct) (.slice Ak r.kids.length ck)] w (.bool (seqOk r)) := by
  have eb := Ext_alloc (.cells #[.string r.nm, .int .i64 r.kind, .int .i64 r.size, .bool r.little, .slice Ab r.bytes.length cb, .slice An r.names.length cn, .slice At r.tags.length ct, .slice Ak r.kids.length ck] 35) (Ext.refl w)
  have B := fun w' (e : Ext (w.alloc (.cells #[.string r.nm, .int .i64 r.kind, .int .i64 r.size, .bool r.little, .slice Ab r.bytes.length cb, .slice An r.names.length cn, .slice At r.tags.length ct, .slice Ak r.kids.length ck] 35)) w') => boxed e
  have CP := Lib.hid (fun w => iPlain0010_c r Ab cb An cn At ct Ak ck (-1) w h.lens)
  obtain ⟨hl1, hl2, hl3, hl4⟩ := h.lens
  have hN := h.n
  have hcap := hN.cap
  have hwn := Lib.hid hw.names
  clear h hw
  unfold seqOk
  generalize plainB r false false true false (-1) = p at *
  unfold vrule at *
  cases p
  · go_enter Try.func67, Try.ntmps67
    go_wp2_with fail
    refine (CP.out _).mono ?_; rintro _ w1 ⟨rfl, he1⟩
    go_wp2
    go_ret
    exact ⟨ret_bool (by simp), eb.trans he1⟩
  by_cases hlen : r.kids.length = r.names.length
  · have CI := Lib.hid (fun w => iInRange_c (r.kids.length : Int) 1 8 w)
    have HB : Hid (between r.kids.length 1 8 = (decide ((1 : Int) ≤ (r.kids.length : Int)) && decide ((r.kids.length : Int) ≤ 8))) := rfl
    have g1 : ((r.kids.length : Int) != (r.names.length : Int)) = false := by simp [hlen]
    have g2 : (r.kids.length == r.names.length) = true := by simp [hlen]
    rw [← HB.out] at CI
    rw [g2]
    clear hlen g2 HB
    generalize between r.kids.length 1 8 = p2 at *
    cases p2
    · go_enter Try.func67, Try.ntmps67
      go_wp2_with fail
      refine (CP.out _).mono ?_; rintro _ w1 ⟨rfl, he1⟩
      go_wp2_with fail
      refine (CI.out _).mono ?_; rintro _ w2 ⟨rfl, he2⟩
      go_wp2
      go_ret
      exact ⟨ret_bool (by simp), eb.trans (he1.trans he2)⟩
    · go_enter Try.func67, Try.ntmps67
      go_wp2_with fail
      refine (CP.out _).mono ?_; rintro _ w1 ⟨rfl, he1⟩
      go_wp2_with fail
      refine (CI.out _).mono ?_; rintro _ w2 ⟨rfl, he2⟩
      have e2 := he1.trans he2
      clear he1 he2 g1 CP CI
      go_wp2
      go_loopw [27] (fun i wr => ∃ k : Nat, k ≤ r.names.length ∧ i = .int .i64 k ∧ Hid (∀ j, j < k → nameOk r.names j = true) ∧ Ext (w.alloc (.cells #[.string r.nm, .int .i64 r.kind, .int .i64 r.size, .bool r.little, .slice Ab r.bytes.length cb, .slice An r.names.length cn, .slice At r.tags.length ct, .slice Ak r.kids.length ck] 35)) wr) (fun i _ => r.names.length - (intOf i).toNat)
      case atStart => exact ⟨0, by omega, rfl, (fun j hj => by omega), e2⟩
      case round =>
        clear e2
        obtain ⟨k, hk, rfl, ht, he⟩ := hrel
        by_cases hlt : k < r.names.length
        · have HT := hN.take k (by omega)
          have HNm := Lib.hid (nameOk_at hlt)
          have NO : Hid (nameOk r.names k = false → allN r.names.length (nameOk r.names) = false) := fun hf => allN_no hlt hf
          have YES : Hid (nameOk r.names k = true → ∀ j, j < k + 1 → nameOk r.names j = true) := upTo ht.out
          have CN := Lib.hid (fun w => iIsName_c r.names[k] w (hwn.out _ (List.getElem_mem hlt)))
          have hlk : (r.names.take k).length = k := by simp; omega
          have CC : Hid (∀ w' s, Ext w w' → Gives Try.prog 23 #[.slice An k cn, .string s] w' (.bool (hasNm (r.names.take k) s))) := fun w' s e => by
            have := iContains_c An (r.names.take k) cn s w' (HT.ext e)
            rwa [hlk] at this
          obtain ⟨b, off, rfl, hb, hc⟩ := hN.at k hlt
          have hcw := fun w' (e : Ext _ w') => hc w' (eb.trans e)
          generalize r.names[k] = x at *
          generalize isName x = q1 at *
          have hc0 : (0 : Int) ≤ (k : Int) := by omega
          have hc1 : (k : Int) ≤ (cn : Int) := by omega
          clear HT hlk hc hN
          cases q1
          · have HR : Hid (nameOk r.names k = false) := by show _ = _; rw [HNm.out]; rfl
            have HE := Lib.hid (NO.out HR.out)
            clear NO YES HNm HR
            go_wp2_with fail
            refine (CN.out _).mono ?_; rintro _ w3 ⟨rfl, he3⟩
            go_wp2
            go_ret
            exact ⟨ret_bool (by rw [HE.out]; simp), eb.trans (he.trans he3)⟩
          · have CD := Lib.hid (fun w' e => CC.out w' x e)
            generalize hasNm (r.names.take k) x = q2 at *
            cases q2
            · have HR : Hid (nameOk r.names k = true) := by show _ = _; rw [HNm.out]; rfl
              have HE := Lib.hid (YES.out HR.out)
              clear NO YES HNm HR CC
              go_wp2_with fail
              refine (CN.out _).mono ?_; rintro _ w3 ⟨rfl, he3⟩
              have e3 := he.trans he3
              go_wp2_with fail
              refine (CD.out _ (eb.trans e3)).mono ?_; rintro _ w4 ⟨rfl, he4⟩
              go_wp2
              go_roundw
              case rel => exact ⟨k+1, by omega, by go_num, HE.out, e3.trans he4⟩
              case measure => simp [intOf]; omega
            · have HR : Hid (nameOk r.names k = false) := by show _ = _; rw [HNm.out]; rfl
              have HE := Lib.hid (NO.out HR.out)
              clear NO YES HNm HR CC
              go_wp2_with fail
              refine (CN.out _).mono ?_; rintro _ w3 ⟨rfl, he3⟩
              have e3 := he.trans he3
              go_wp2_with fail
              refine (CD.out _ (eb.trans e3)).mono ?_; rintro _ w4 ⟨rfl, he4⟩
              go_wp2
              go_ret
              exact ⟨ret_bool (by rw [HE.out]; simp), eb.trans (e3.trans he4)⟩
        · have HE : Hid (allN r.names.length (nameOk r.names) = true) := allN_yes (fun j hj => ht.out j (by omega))
          go_wp2
          go_ret
          exact ⟨ret_bool (by rw [HE.out]; simp), eb.trans he⟩
  · have g1 : ((r.kids.length : Int) != (r.names.length : Int)) = true := by simp; omega
    have g2 : (r.kids.length == r.names.length) = false := by simpa using hlen
    rw [g2]
    clear hlen g2
    go_enter Try.func67, Try.ntmps67
    go_wp2_with fail
    refine (CP.out _).mono ?_; rintro _ w1 ⟨rfl, he1⟩
    go_wp2
    go_ret
    exact ⟨ret_bool (by simp), eb.trans he1⟩
/-- the tags of a choice, of the reference -/
def tagsB (ds : List DRule) (r : DRule) : Bool := r.kids.length == r.tags.length + 1 && between r.tags.length 1 8 && allN r.tags.length (tagOk (limD ds (r.kids.getD 0 0)) r.tags)
theorem tagOk_zero {lim : Int} {l : List Int} {k : Nat} (h : k < l.length) (hz : k = 0) : tagOk lim l k = between l[k] 0 lim := by rw [tagOk_at h]; simp [hz]
theorem tagOk_succ {lim : Int} {l : List Int} {m : Nat} (h : m + 1 < l.length) : tagOk lim l (m + 1) = (between l[m + 1] 0 lim && !decide (l[m + 1] ≤ l[m])) := by
  rw [tagOk_at h]
  have : l.getD (m + 1 - 1) 0 = l[m] := by simp [List.getD_eq_getElem?_getD, List.getElem?_eq_getElem (show m < l.length by omega)]
  rw [this]
  by_cases h2 : l[m] < l[m + 1]
  · rw [decide_eq_true h2, decide_eq_false (show ¬ l[m + 1] ≤ l[m] by omega)]; simp
  · rw [decide_eq_false h2, decide_eq_true (show l[m + 1] ≤ l[m] by omega)]; simp
theorem wrap_back (m : Nat) (h : m ≤ 9223372036854775807) : IntKind.i64.wrap ((m : Int) + 1 - 1) = (m : Int) := by
  rw [show (m : Int) + 1 - 1 = (m : Int) by omega]; exact IntWalk.i64_in _ (by omega)
set_option maxRecDepth 100000 in
set_option maxHeartbeats 4000000 in
theorem sTags_c (A : Option Addr) (ds : List DRule) (c : Nat) (r : DRule) (Ab : Option Addr) (cb : Nat) (An : Option Addr) (cn : Nat) (At : Option Addr) (ct : Nat) (Ak : Option Addr) (ck : Nat) (w : World) (hd : RdD w A ds c) (h : RdS w r Ab cb An cn At ct Ak ck) (hs : ShortR r) :
    Gives Try.prog 63 #[vdesc (.slice A ds.length c), vrule r (.slice Ab r.bytes.length cb) (.slice An r.names.length cn) (.slice At r.tags.length ct) (.slice Ak r.kids.length ck)] w (.bool (tagsB ds r)) := by
  have eb := Ext_alloc (.cells #[.string r.nm, .int .i64 r.kind, .int .i64 r.size, .bool r.little, .slice Ab r.bytes.length cb, .slice An r.names.length cn, .slice At r.tags.length ct, .slice Ak r.kids.length ck] 35) (Ext_alloc (.cells #[.slice A ds.length c] 26) (Ext.refl w))
  have BX := fun w' (e : Ext ((w.alloc (.cells #[.slice A ds.length c] 26)).alloc (.cells #[.string r.nm, .int .i64 r.kind, .int .i64 r.size, .bool r.little, .slice Ab r.bytes.length cb, .slice An r.names.length cn, .slice At r.tags.length ct, .slice Ak r.kids.length ck] 35)) w') => boxed2 e
  have B0 := fun w' e => (BX w' e).1
  have B1 := fun w' e => (BX w' e).2.1
  clear BX
  obtain ⟨hl1, hl2, hl3, hl4⟩ := hs
  have hT := h.t; have hK := h.k
  clear h
  unfold vrule vdesc at *
  unfold tagsB
  by_cases hlen : r.kids.length = r.tags.length + 1
  · have g1 : ((r.kids.length : Int) != (r.tags.length : Int) + 1) = false := by simp; omega
    have g2 : (r.kids.length == r.tags.length + 1) = true := by simpa using hlen
    rw [g2]
    have CI := Lib.hid (fun w => l1In_c (r.tags.length : Int) 1 8 w)
    have HB : Hid (between r.tags.length 1 8 = (decide ((1 : Int) ≤ (r.tags.length : Int)) && decide ((r.tags.length : Int) ≤ 8))) := rfl
    rw [← HB.out] at CI
    have HLEN := Lib.hid hlen
    clear g2 HB hlen
    generalize between r.tags.length 1 8 = p2 at *
    cases p2
    · go_enter Try.func63, Try.ntmps63
      go_wp2_with fail
      refine (CI.out _).mono ?_; rintro _ w2 ⟨rfl, he2⟩
      go_wp2
      go_ret
      exact ⟨ret_bool (by simp), eb.trans he2⟩
    · have hk0 : 0 < r.kids.length := by have := HLEN.out; omega
      obtain ⟨bk, ok, rfl, hbk, hck⟩ := hK.at 0 hk0
      have HG : Hid (r.kids.getD 0 0 = r.kids[0]) := by show _ = _; simp [List.getD_eq_getElem?_getD, List.getElem?_eq_getElem hk0]
      rw [HG.out]
      rw [Nat.add_zero] at hck
      generalize r.kids[0] = kid at *
      have CL := Lib.hid (fun w h => sLimit_c A ds c kid w h)
      unfold vdesc at CL
      generalize limD ds kid = lim at *
      have hck' := fun w' (e : Ext _ w') => hck w' (eb.trans e)
      clear hck hK HG
      go_enter Try.func63, Try.ntmps63
      go_wp2_with fail
      refine (CI.out _).mono ?_; rintro _ w2 ⟨rfl, he2⟩
      clear CI g1
      go_wp2
      go_loopw [5] (fun i wr => ∃ k : Nat, k ≤ r.tags.length ∧ i = .int .i64 k ∧ Hid (∀ j, j < k → tagOk lim r.tags j = true) ∧ Ext _ wr) (fun i _ => r.tags.length - (intOf i).toNat)
      case atStart => exact ⟨0, by omega, rfl, (fun j hj => by omega), he2⟩
      case round =>
        clear he2
        obtain ⟨k, hk, rfl, ht, he⟩ := hrel
        by_cases hlt : k < r.tags.length
        · obtain ⟨b, off, rfl, hb, hc⟩ := hT.at k hlt
          have hc' := fun w' (e : Ext _ w') => hc w' (eb.trans e)
          have NO : Hid (tagOk lim r.tags k = false → allN r.tags.length (tagOk lim r.tags) = false) := fun hf => allN_no hlt hf
          have YES : Hid (tagOk lim r.tags k = true → ∀ j, j < k + 1 → tagOk lim r.tags j = true) := upTo ht.out
          have CB := Lib.hid (fun w => l1In_c r.tags[k] 0 lim w)
          have HB : Hid (between r.tags[k] 0 lim = (decide ((0 : Int) ≤ r.tags[k]) && decide (r.tags[k] ≤ lim))) := rfl
          rw [← HB.out] at CB
          clear HB
          rcases Nat.eq_zero_or_pos k with hz | hpos
          · have HN := Lib.hid (tagOk_zero (lim := lim) hlt hz)
            have d1 : decide ((0 : Int) < (k : Int)) = false := by simp; omega
            have d2 : decide (0 < k) = false := by simp; omega
            clear hz
            generalize r.tags[k] = x at *
            generalize between x 0 lim = q1 at *
            clear hc hT ht
            cases q1
            · have HE := Lib.hid (NO.out HN.out); clear NO YES HN
              go_wp2_with fail
              refine wp_region_quiet_below (by kernel_rfl) (by kernel_rfl) ?_
              repeat (go_big_quiet_step ((first | (go_at_call 61; exact Calls.regrown_of (CL.out _ (hd.ext (eb.trans (by first | assumption | exact Ext_regrown _ _ he))))) | (go_at_call 34; exact Calls.regrown_of (CB.out _)))))
              refine wpQuiet_nil ?_
              rintro w1 ⟨⟨nq, osq⟩, hq⟩
              have ew1 := ext_of_q hq
              clear hq nq osq
              go_wp2
              go_ret
              exact ⟨ret_bool (by rw [HE.out]; simp), eb.trans (he.trans ew1)⟩
            · have HE := Lib.hid (YES.out HN.out); clear NO YES HN
              go_wp2_with fail
              refine wp_region_quiet_below (by kernel_rfl) (by kernel_rfl) ?_
              repeat (go_big_quiet_step ((first | (go_at_call 61; exact Calls.regrown_of (CL.out _ (hd.ext (eb.trans (by first | assumption | exact Ext_regrown _ _ he))))) | (go_at_call 34; exact Calls.regrown_of (CB.out _)))))
              refine wpQuiet_nil ?_
              rintro w1 ⟨⟨nq, osq⟩, hq⟩
              have ew1 := ext_of_q hq
              clear hq nq osq
              go_wp2
              go_roundw
              case rel => exact ⟨k+1, by omega, by go_num, HE.out, he.trans ew1⟩
              case measure => simp [intOf]; omega
          · obtain ⟨m, rfl⟩ : ∃ m, k = m + 1 := ⟨k - 1, by omega⟩
            have HN := Lib.hid (tagOk_succ (lim := lim) hlt)
            obtain ⟨b', off', hh, _, hcm⟩ := hT.at m (by omega)
            obtain ⟨rfl, rfl⟩ : b = b' ∧ off = off' := by injection hh with hh; injection hh with h1 h2; exact ⟨h1, h2⟩
            have hcm' := fun w' (e : Ext _ w') => hcm w' (eb.trans e)
            have hwm := wrap_back m (by omega)
            generalize r.tags[m + 1] = x at *
            generalize r.tags[m] = y at *
            generalize between x 0 lim = q1 at *
            clear hc hT ht hcm hh
            cases q1
            · have HE := Lib.hid (NO.out (HN.out.trans (by simp))); clear NO YES HN
              go_wp2_with fail
              refine wp_region_quiet_below (by kernel_rfl) (by kernel_rfl) ?_
              repeat (go_big_quiet_step ((first | (go_at_call 61; exact Calls.regrown_of (CL.out _ (hd.ext (eb.trans (by first | assumption | exact Ext_regrown _ _ he))))) | (go_at_call 34; exact Calls.regrown_of (CB.out _)))))
              refine wpQuiet_nil ?_
              rintro w1 ⟨⟨nq, osq⟩, hq⟩
              have ew1 := ext_of_q hq
              clear hq nq osq
              go_wp2
              go_ret
              exact ⟨ret_bool (by rw [HE.out]; simp), eb.trans (he.trans ew1)⟩
            · cases hq : decide (x ≤ y)
              · have HE := Lib.hid (YES.out (HN.out.trans (by rw [hq]; simp))); clear NO YES HN
                go_wp2_with fail
                refine wp_region_quiet_below (by kernel_rfl) (by kernel_rfl) ?_
                repeat (go_big_quiet_step ((first | (go_at_call 61; exact Calls.regrown_of (CL.out _ (hd.ext (eb.trans (by first | assumption | exact Ext_regrown _ _ he))))) | (go_at_call 34; exact Calls.regrown_of (CB.out _)))))
                refine wpQuiet_nil ?_
                rintro w1 ⟨⟨nq, osq⟩, hq⟩
                have ew1 := ext_of_q hq
                clear hq nq osq
                go_wp2
                go_roundw
                case rel => exact ⟨m+2, by omega, by go_num, HE.out, he.trans ew1⟩
                case measure => simp [intOf]; omega
              · have HE := Lib.hid (NO.out (HN.out.trans (by rw [hq]; simp))); clear NO YES HN
                go_wp2_with fail
                refine wp_region_quiet_below (by kernel_rfl) (by kernel_rfl) ?_
                repeat (go_big_quiet_step ((first | (go_at_call 61; exact Calls.regrown_of (CL.out _ (hd.ext (eb.trans (by first | assumption | exact Ext_regrown _ _ he))))) | (go_at_call 34; exact Calls.regrown_of (CB.out _)))))
                refine wpQuiet_nil ?_
                rintro w1 ⟨⟨nq, osq⟩, hq⟩
                have ew1 := ext_of_q hq
                clear hq nq osq
                go_wp2
                go_ret
                exact ⟨ret_bool (by rw [HE.out]; simp), eb.trans (he.trans ew1)⟩
        · have HE : Hid (allN r.tags.length (tagOk lim r.tags) = true) := allN_yes (fun j hj => ht.out j (by omega))
          go_wp2
          go_ret
          exact ⟨ret_bool (by rw [HE.out]; simp), eb.trans he⟩
  · have g1 : ((r.kids.length : Int) != (r.tags.length : Int) + 1) = true := by simp; omega
    have g2 : (r.kids.length == r.tags.length + 1) = false := by simpa using hlen
    rw [g2]
    clear hlen g2
    go_enter Try.func63, Try.ntmps63
    go_wp2
    go_ret
    exact ⟨ret_bool (by simp), eb⟩
theorem plainB_kids {r : DRule} {a b c d : Bool} {k : Nat} (h : plainB r a b c d (k : Int) = true) : r.kids.length = k := by
  unfold plainB at h
  simp only [Bool.and_eq_true, Bool.or_eq_true, decide_eq_true_eq] at h
  omega
theorem lim_pos {lim : Int} (hl : lim = -1 ∨ lim = 255 ∨ lim = 65535 ∨ lim = 16777215 ∨ lim = 4294967295) {l : List Int} (h : 0 < l.length) (ht : ∀ j, j < l.length → tagOk lim l j = true) : decide (0 < lim) = true := by
  have h0 := ht 0 h
  rw [tagOk_zero h rfl] at h0
  unfold between at h0
  simp only [Bool.and_eq_true, decide_eq_true_eq] at h0
  simp; omega
set_option maxRecDepth 100000 in
set_option maxHeartbeats 4000000 in
theorem iChoice_c (A : Option Addr) (ds : List DRule) (c : Nat) (r : DRule) (Ab : Option Addr) (cb : Nat) (An : Option Addr) (cn : Nat) (At : Option Addr) (ct : Nat) (Ak : Option Addr) (ck : Nat) (w : World) (hd : RdD w A ds c) (h : RdS w r Ab cb An cn At ct Ak ck) (hs : ShortR r) :
    Gives Try.prog 68 #[vdesc (.slice A ds.length c), vrule r (.slice Ab r.bytes.length cb) (.slice An r.names.length cn) (.slice At r.tags.length ct) (.slice Ak r.kids.length ck)] w (.bool (choOk ds r)) := by
  have eb := Ext_alloc (.cells #[.string r.nm, .int .i64 r.kind, .int .i64 r.size, .bool r.little, .slice Ab r.bytes.length cb, .slice An r.names.length cn, .slice At r.tags.length ct, .slice Ak r.kids.length ck] 35) (Ext_alloc (.cells #[.slice A ds.length c] 26) (Ext.refl w))
  have BX := fun w' (e : Ext ((w.alloc (.cells #[.slice A ds.length c] 26)).alloc (.cells #[.string r.nm, .int .i64 r.kind, .int .i64 r.size, .bool r.little, .slice Ab r.bytes.length cb, .slice An r.names.length cn, .slice At r.tags.length ct, .slice Ak r.kids.length ck] 35)) w') => boxed2 e
  have B0 := fun w' e => (BX w' e).1
  have B1 := fun w' e => (BX w' e).2.1
  clear BX
  have CP := Lib.hid (fun w => iPlain0001_c r Ab cb An cn At ct Ak ck ((r.tags.length : Int) + 1) w h.lens)
  obtain ⟨hl1, hl2, hl3, hl4⟩ := hs
  have hT := h.t; have hK := h.k
  clear h
  have HK : Hid (plainB r false false false true ((r.tags.length : Int) + 1) = true → r.kids.length = r.tags.length + 1) := fun hp => plainB_kids (k := r.tags.length + 1) (by rw [Int.natCast_add]; exact hp)
  unfold choOk
  generalize plainB r false false false true ((r.tags.length : Int) + 1) = p at *
  unfold vrule vdesc at *
  cases p
  · go_enter Try.func68, Try.ntmps68
    go_wp2_with fail
    refine (CP.out _).mono ?_; rintro _ w1 ⟨rfl, he1⟩
    go_wp2
    go_ret
    exact ⟨ret_bool (by simp), eb.trans he1⟩
  have hlen := HK.out rfl
  have CI := Lib.hid (fun w => iInRange_c (r.tags.length : Int) 1 8 w)
  have HB : Hid (between r.tags.length 1 8 = (decide ((1 : Int) ≤ (r.tags.length : Int)) && decide ((r.tags.length : Int) ≤ 8))) := rfl
  rw [← HB.out] at CI
  have HP : Hid (between r.tags.length 1 8 = true → 0 < r.tags.length) := by intro hq; unfold between at hq; simp only [Bool.and_eq_true, decide_eq_true_eq] at hq; omega
  have HLEN := Lib.hid hlen
  clear HB hlen HK
  generalize between r.tags.length 1 8 = p2 at *
  cases p2
  · go_enter Try.func68, Try.ntmps68
    go_wp2_with fail
    refine (CP.out _).mono ?_; rintro _ w1 ⟨rfl, he1⟩
    go_wp2_with fail
    refine (CI.out _).mono ?_; rintro _ w2 ⟨rfl, he2⟩
    go_wp2
    go_ret
    exact ⟨ret_bool (by simp), eb.trans (he1.trans he2)⟩
  · have hpos := HP.out rfl
    have hk0 : 0 < r.kids.length := by have := HLEN.out; omega
    obtain ⟨bk, ok, rfl, hbk, hck⟩ := hK.at 0 hk0
    have HG : Hid (r.kids.getD 0 0 = r.kids[0]) := by show _ = _; simp [List.getD_eq_getElem?_getD, List.getElem?_eq_getElem hk0]
    rw [HG.out]
    rw [Nat.add_zero] at hck
    generalize r.kids[0] = kid at *
    have CL := Lib.hid (fun w h => iLimit_c A ds c kid w h)
    have HLC := Lib.hid (limD_cases ds kid)
    unfold vdesc at CL
    generalize limD ds kid = lim at *
    have hck' := fun w' (e : Ext _ w') => hck w' (eb.trans e)
    clear hck hK HG
    go_enter Try.func68, Try.ntmps68
    go_wp2_with fail
    refine (CP.out _).mono ?_; rintro _ w1 ⟨rfl, he1⟩
    go_wp2_with fail
    refine (CI.out _).mono ?_; rintro _ w2 ⟨rfl, he2⟩
    have e2 := he1.trans he2
    clear CI CP he1 he2
    go_wp2_with fail
    refine wp_region_quiet_below (by kernel_rfl) (by kernel_rfl) ?_
    repeat (go_big_quiet_step ((go_at_call 66; exact Calls.regrown_of (CL.out _ (hd.ext (eb.trans (by first | assumption | exact Ext_regrown _ _ e2)))))))
    refine wpQuiet_nil ?_
    rintro w3 ⟨⟨nq, osq⟩, hq⟩
    have ew3 := ext_of_q hq
    clear hq nq osq
    have e3 := e2.trans ew3
    clear e2 ew3 CL
    go_wp2
    go_loopw [31] (fun i wr => ∃ k : Nat, k ≤ r.tags.length ∧ i = .int .i64 k ∧ Hid (∀ j, j < k → tagOk lim r.tags j = true) ∧ Ext _ wr) (fun i _ => r.tags.length - (intOf i).toNat)
    case atStart => exact ⟨0, by omega, rfl, (fun j hj => by omega), e3⟩
    case round =>
      clear e3
      obtain ⟨k, hk, rfl, ht, he⟩ := hrel
      by_cases hlt : k < r.tags.length
      · obtain ⟨b, off, rfl, hb, hc⟩ := hT.at k hlt
        have hc' := fun w' (e : Ext _ w') => hc w' (eb.trans e)
        have NO : Hid (tagOk lim r.tags k = false → allN r.tags.length (tagOk lim r.tags) = false) := fun hf => allN_no hlt hf
        have YES : Hid (tagOk lim r.tags k = true → ∀ j, j < k + 1 → tagOk lim r.tags j = true) := upTo ht.out
        have CB := Lib.hid (fun w => iInRange_c r.tags[k] 0 lim w)
        have HB : Hid (between r.tags[k] 0 lim = (decide ((0 : Int) ≤ r.tags[k]) && decide (r.tags[k] ≤ lim))) := rfl
        rw [← HB.out] at CB
        clear HB
        rcases Nat.eq_zero_or_pos k with hz | hpos'
        · have HN := Lib.hid (tagOk_zero (lim := lim) hlt hz)
          have d1 : decide ((0 : Int) < (k : Int)) = false := by simp; omega
          have d2 : decide (0 < k) = false := by simp; omega
          clear hz
          generalize r.tags[k] = x at *
          generalize between x 0 lim = q1 at *
          clear hc hT ht
          cases q1
          · have HE := Lib.hid (NO.out HN.out); clear NO YES HN
            go_wp2_with fail
            refine (CB.out _).mono ?_; rintro _ w4 ⟨rfl, he4⟩
            go_wp2
            go_ret
            exact ⟨ret_bool (by rw [HE.out]; simp), eb.trans (he.trans he4)⟩
          · have HE := Lib.hid (YES.out HN.out); clear NO YES HN
            go_wp2_with fail
            refine (CB.out _).mono ?_; rintro _ w4 ⟨rfl, he4⟩
            go_wp2
            go_roundw
            case rel => exact ⟨k+1, by omega, by go_num, HE.out, he.trans he4⟩
            case measure => simp [intOf]; omega
        · obtain ⟨m, rfl⟩ : ∃ m, k = m + 1 := ⟨k - 1, by omega⟩
          have HN := Lib.hid (tagOk_succ (lim := lim) hlt)
          obtain ⟨b', off', hh, _, hcm⟩ := hT.at m (by omega)
          obtain ⟨rfl, rfl⟩ : b = b' ∧ off = off' := by injection hh with hh; injection hh with h1 h2; exact ⟨h1, h2⟩
          have hcm' := fun w' (e : Ext _ w') => hcm w' (eb.trans e)
          have hwm := wrap_back m (by omega)
          generalize r.tags[m + 1] = x at *
          generalize r.tags[m] = y at *
          generalize between x 0 lim = q1 at *
          clear hc hT ht hcm hh
          cases q1
          · have HE := Lib.hid (NO.out (HN.out.trans (by simp))); clear NO YES HN
            go_wp2_with fail
            refine (CB.out _).mono ?_; rintro _ w4 ⟨rfl, he4⟩
            go_wp2
            go_ret
            exact ⟨ret_bool (by rw [HE.out]; simp), eb.trans (he.trans he4)⟩
          · cases hq : decide (x ≤ y)
            · have HE := Lib.hid (YES.out (HN.out.trans (by rw [hq]; simp))); clear NO YES HN
              go_wp2_with fail
              refine (CB.out _).mono ?_; rintro _ w4 ⟨rfl, he4⟩
              have e4 := he.trans he4
              go_wp2
              go_roundw
              case rel => exact ⟨m+2, by omega, by go_num, HE.out, e4⟩
              case measure => simp [intOf]; omega
            · have HE := Lib.hid (NO.out (HN.out.trans (by rw [hq]; simp))); clear NO YES HN
              go_wp2_with fail
              refine (CB.out _).mono ?_; rintro _ w4 ⟨rfl, he4⟩
              have e4 := he.trans he4
              go_wp2
              go_ret
              exact ⟨ret_bool (by rw [HE.out]; simp), eb.trans e4⟩
      · have HE : Hid (allN r.tags.length (tagOk lim r.tags) = true) := allN_yes (fun j hj => ht.out j (by omega))
        have HL0 := Lib.hid (lim_pos HLC.out hpos (fun j hj => ht.out j (by omega)))
        have hl0 := HL0.out
        go_wp2
        go_ret
        exact ⟨ret_bool (by rw [HE.out]; simp), eb.trans he⟩
end Go.Proofs.Ytophjmphjdhjoaa
