/- The laws' marks on slices of strings, tested; marks on descriptions, as the laws use them. -/
import Derived.Test.YtalnekcmfagjoaaMarkRule
import Derived.Test.YtalnekcmfagjoaaDescR
namespace Go.Proofs.Ytalnekcmfagjoaa
open Go.RowKit Go.Sort

set_option maxRecDepth 100000 in
set_option maxHeartbeats 1000000 in
theorem heldStringS_c (A : Option Addr) (n c : Nat) (k : Nat) (w : World) (h : Rd (mkT k) w A (List.range n) c) (hk : 0 < k) (hk2 : k + n ≤ 1099511627776) :
    Gives Try.prog 75 #[.slice A n c, .int .i64 k] w (.int .i64 ((k + n : Nat) : Int)) := by
  go_enter Try.func75, Try.ntmps75
  go_wp2
  go_loopw [1, 5] (fun kk i wr => ∃ j : Nat, j ≤ n ∧ i = .int .i64 j ∧ kk = .int .i64 ((k + j : Nat) : Int) ∧ Ext w wr) (fun _ i _ => n - (intOf i).toNat)
  case atStart => exact ⟨0, by omega, rfl, rfl, Ext.refl _⟩
  case round =>
    obtain ⟨j, hj, rfl, rfl, he⟩ := hrel
    by_cases hlt : j < n
    · obtain ⟨b, off, rfl, hb, hc⟩ := h.at j (by simpa using hlt)
      simp only [List.getElem_range, mkT] at hc
      have MT : Hid (∀ w, Gives Try.prog 70 #[.int .i64 ((k + j : Nat) : Int)] w (.string (markT (k + j)))) := fun w => markText_c (k + j) w (by omega) (by omega)
      obtain ⟨z, hz⟩ : ∃ z, k + j = z := ⟨_, rfl⟩
      have HZ : Hid (k + (j + 1) = z + 1) := by show _ = _; omega
      rw [hz] at hc MT ⊢
      have hzb : z ≤ 1099511627776 := by omega
      generalize markT z = s at *
      clear hz h
      have hs1 : (s.toList != s.toList) = false := by simp
      go_wp2_with fail
      refine wp_region_quiet_below (by kernel_rfl) (by kernel_rfl) ?_
      repeat (go_big_quiet_step ((go_at_call 70; exact Calls.regrown_of (MT.out _))))
      refine wpQuiet_nil ?_
      rintro w1 ⟨⟨nq, osq⟩, hq⟩
      have ew1 := ext_of_q hq
      clear hq nq osq
      go_wp2
      go_roundw
      case rel => exact ⟨j+1, by omega, by go_num, by rw [HZ.out]; go_num, he.trans ew1⟩
      case measure => simp [intOf]; omega
    · obtain rfl : j = n := by omega
      go_wp2
      go_ret
      exact ⟨rfl, he⟩
theorem Box.wrote {w w' : World} {g : Nat} {cs : Array Value} {T : TypeId} (h : Box w g cs T) {lo hi : Nat} (hw : Wrote lo hi w w') (hg : g < lo ∨ hi ≤ g) : Box w' g cs T := (hw.block g h.lt hg).trans h
theorem RuleOwn.wrote {w0 w w' : World} {p : RV} (h : RuleOwn w0 w p) {lo hi : Nat} (hw : Wrote lo hi w w') (hv : ∀ v ∈ p.vals, ∀ g, v.ownBlock = some g → g < lo ∨ hi ≤ g) : RuleOwn w0 w' p :=
  ⟨h.b.wrote hw (hv _ (by simp [RV.vals])), h.n.wrote hw (hv _ (by simp [RV.vals])), h.t.wrote hw (hv _ (by simp [RV.vals])), h.k.wrote hw (hv _ (by simp [RV.vals]))⟩
theorem OwnD.wrote {w0 w w' : World} {v : Value} {ps : List RV} (h : OwnD w0 w v ps) {lo hi : Nat} (hw : Wrote lo hi w w') (hv : ∀ u ∈ v :: ps.flatMap RV.vals, ∀ g, u.ownBlock = some g → g < lo ∨ hi ≤ g) : OwnD w0 w' v ps :=
  ⟨h.row.wrote hw (hv _ (by simp)), fun p hp => (h.each p hp).wrote hw (fun u hu => hv u (List.mem_cons_of_mem _ (List.mem_flatMap.2 ⟨p, hp, hu⟩))), h.far⟩
/-- a description copied by a law: its blocks lie from lo on, below hi -/
structure DMade (lo hi : Nat) (w : World) (v : Value) (ps : List RV) : Prop where
  own : ∃ w0 : World, w0.heap.size = lo ∧ OwnD w0 w v ps
  blk : ∀ u ∈ v :: ps.flatMap RV.vals, ∀ b, u.ownBlock = some b → lo ≤ b ∧ b < hi
theorem DMade.ext {lo hi : Nat} {w w' : World} {v : Value} {ps : List RV} (h : DMade lo hi w v ps) (e : Ext w w') : DMade lo hi w' v ps := ⟨let ⟨w0, h0, h1⟩ := h.own; ⟨w0, h0, h1.ext e⟩, h.blk⟩
theorem DMade.wrote {lo hi lo' hi' : Nat} {w w' : World} {v : Value} {ps : List RV} (h : DMade lo hi w v ps) (hw : Wrote lo' hi' w w') (hd : hi ≤ lo' ∨ hi' ≤ lo) : DMade lo hi w' v ps :=
  ⟨let ⟨w0, h0, h1⟩ := h.own; ⟨w0, h0, h1.wrote hw (fun u hu g hg => by have := h.blk u hu g hg; omega)⟩, h.blk⟩
theorem toDesc_o (A : Option Addr) (ds : List DRule) (c : Nat) (w : World) (h : RdD w A ds c) (hz : szD ds ≤ 1048576) :
    Calls Try.prog 9 #[vdesc (.slice A ds.length c)] w fun e w' => ∃ A1 c1 ps, e = .returned (vdesc (.slice A1 ds.length c1)) ∧ RdD w' A1 ds c1 ∧ rulesOf ps = ds ∧ DMade w.heap.size w'.heap.size w' (.slice A1 ds.length c1) ps ∧ Ext w w' := by
  refine (toDescription_c A ds c w h hz).mono ?_
  rintro e w' ⟨v, ps, he, rfl, ho, hx⟩
  obtain ⟨A1, c1, rfl, hr⟩ := ho.rd (OwnD.short hz).1 (OwnD.short hz).2
  exact ⟨A1, c1, ps, he, hr, rfl, ⟨⟨w, rfl, ho⟩, ho.block⟩, hx⟩
set_option maxHeartbeats 1000000 in
theorem markDesc_c (A : Option Addr) (n c : Nat) (ps : List RV) (k : Nat) (lo hi : Nat) (w : World) (h : DMade lo hi w (.slice A n c) ps) (hz : szD (rulesOf ps) ≤ 1048576) (hk : 0 < k) (hk2 : k ≤ 100000000) :
    Calls Try.prog 12 #[vdesc (.slice A n c), .int .i64 k] w fun e w' => ∃ k' : Nat, k ≤ k' ∧ k' ≤ k + 6000000 ∧ e = .returned (.int .i64 k') ∧ Wrote lo hi w w' := by
  obtain ⟨⟨w0, h0, h1⟩, hb⟩ := h
  subst h0
  have hkE : kEndR k ps ≤ k + 6000000 ∧ k ≤ kEndR k ps := by
    refine ⟨?_, kEndR_ge _ _⟩
    have := kEndR_sz k ps
    unfold szD at hz; rw [rulesOf_len] at hz; omega
  have hsh := (OwnD.short hz).2
  have eb := Ext_alloc (.cells #[.slice A n c] 28) (Ext.refl w)
  have h1' := h1.ext eb
  have C : Hid (Calls Try.prog 39 #[.slice A n c, .int .i64 k] (w.alloc (.cells #[.slice A n c] 28)) fun e w' => e = .returned (.int .i64 (kEndR k ps : Nat)) ∧ Wrote w0.heap.size hi (w.alloc (.cells #[.slice A n c] 28)) w') := by
    obtain ⟨A', c', hv⟩ := h1'.shape
    injection hv with q1 q2 q3
    subst q1; subst q2; subst q3
    rcases h1'.row.2 with ⟨hv, h0⟩ | ⟨g, cap, cur, hv, _⟩
    · injection hv with q1 q2 q3
      subst q1; subst q3
      obtain rfl : ps = [] := List.eq_nil_of_length_eq_zero h0
      have hk64 : (k : Int) ≤ 100000000 := by omega
      clear h1 h1' hb hkE hz hsh h0 eb
      show Calls _ _ _ _ _
      go_enter Try.func39, Try.ntmps39
      go_wp2
      go_loopw [1, 5] (fun kk i wr => i = .int .i64 0 ∧ kk = .int .i64 k ∧ Wrote w0.heap.size hi (w.alloc (.cells #[.slice none 0 0] 28)) wr) (fun _ _ _ => 0)
      case atStart => exact ⟨rfl, rfl, Wrote.refl _ _ _⟩
      case round =>
        obtain ⟨rfl, rfl, he'⟩ := hrel
        go_wp2
        go_ret
        exact ⟨rfl, he'⟩
    · injection hv with q1 q2 q3
      subst q1; subst q3
      exact (markRuleS_c g c ps k w0 _ hi h1' hb hk (by omega) hsh).mono fun e w' ⟨a, _, b⟩ => ⟨a, b⟩
  have HE := Lib.hid hkE
  have W0 : Hid (Wrote w0.heap.size hi w (w.alloc (.cells #[.slice A n c] 28))) := Wrote.ext eb
  clear h1 h1' hb hz hsh hkE
  unfold vdesc
  generalize kEndR k ps = K at *
  have hK1 : K ≤ 200000000 := by have := HE.out; omega
  go_enter Try.func12, Try.ntmps12
  go_wp2_with fail
  refine C.out.mono ?_; rintro _ w1 ⟨rfl, hw⟩
  have HW := Lib.hid hw; clear hw
  go_wp2
  go_ret
  exact ⟨K, HE.out.2, HE.out.1, rfl, W0.out.trans HW.out⟩
end Go.Proofs.Ytalnekcmfagjoaa
