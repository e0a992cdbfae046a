/- The laws' marks on rules and descriptions, tested. -/
import Derived.Test.YtalnekcmfagjoaaHeldStr
namespace Go.Proofs.Ytalnekcmfagjoaa
open Go.RowKit Go.Sort

theorem MarkingR.ext {w0 w w' : World} {g c : Nat} {ps : List RV} {k i : Nat} (h : MarkingR w0 w g c ps k i) (e : Ext w w') : MarkingR w0 w' g c ps k i :=
  ⟨h.row.ext e, fun j a b => (h.done j a b).ext e, fun j a b => (h.todo j a b).ext e⟩
theorem RuleMarked.rd {w0 w : World} {k : Nat} {p : RV} (h : RuleMarked w0 w k p) (hs : ShortR p.r) : ∃ Ab cb An cn At ct Ak ck, p.vb = .slice Ab p.r.bytes.length cb ∧ p.vn = .slice An p.r.names.length cn ∧ p.vt = .slice At p.r.tags.length ct ∧ p.vk = .slice Ak p.r.kids.length ck ∧
    Rd (mk8 ((k : Int) + 4)) w Ab (List.range p.r.bytes.length) cb ∧ Rd (mkT (k + 4 + p.r.bytes.length)) w An (List.range p.r.names.length) cn ∧ Rd (mkI ((k + 4 + p.r.bytes.length + p.r.names.length : Nat) : Int)) w At (List.range p.r.tags.length) ct ∧ Rd (mkI ((k + 4 + p.r.bytes.length + p.r.names.length + p.r.tags.length : Nat) : Int)) w Ak (List.range p.r.kids.length) ck := by
  obtain ⟨s1, s2, s3, s4⟩ := hs
  obtain ⟨Ab, cb, h1, r1⟩ := Own.rd (l := List.range p.r.bytes.length) h.b (by simpa using s1)
  obtain ⟨An, cn, h2, r2⟩ := Own.rd (l := List.range p.r.names.length) h.n (by simpa using s2)
  obtain ⟨At, ct, h3, r3⟩ := Own.rd (l := List.range p.r.tags.length) h.t (by simpa using s3)
  obtain ⟨Ak, ck, h4, r4⟩ := Own.rd (l := List.range p.r.kids.length) h.k (by simpa using s4)
  simp only [List.length_range] at h1 h2 h3 h4
  exact ⟨Ab, cb, An, cn, At, ct, Ak, ck, h1, h2, h3, h4, r1, r2, r3, r4⟩
set_option maxRecDepth 100000 in
set_option maxHeartbeats 8000000 in
theorem heldRuleS_c (g c : Nat) (ps : List RV) (k : Nat) (w0 w : World) (h : MarkingR w0 w g c ps k ps.length) (hk : 0 < k) (hk2 : kEndR k ps ≤ 1099511627776) (hs : ∀ p ∈ ps, ShortR p.r) :
    Gives Try.prog 40 #[.slice (some ⟨g, 0, none⟩) ps.length c, .int .i64 k] w (.int .i64 (kEndR k ps : Nat)) := by
  have hn : ps.length ≤ 140737488351232 := by
    rw [kEndR_eq] at hk2
    have := len_mlen ps
    omega
  have HM := Lib.hid h; clear h
  go_enter Try.func40, Try.ntmps40
  go_wp2
  go_loopw [1, 5] (fun kk i wr => ∃ j : Nat, j ≤ ps.length ∧ i = .int .i64 j ∧ kk = .int .i64 (kEndR k (ps.take j) : Nat) ∧ Ext w wr) (fun _ i _ => ps.length - (intOf i).toNat)
  case atStart => exact ⟨0, by omega, rfl, rfl, Ext.refl _⟩
  case round =>
    obtain ⟨j, hj, rfl, rfl, he⟩ := hrel
    by_cases hlt : j < ps.length
    · have HKn : Hid (kEndR k (ps.take (j+1)) = kEndR k (ps.take j) + mlen ps[j].r) := by
        show _ = _; rw [List.take_succ_eq_append_getElem hlt, kEndR_append]; rfl
      have hKe := kEndR_mono k ps (j+1)
      rw [HKn.out] at hKe
      have hK0 := kEndR_ge k (ps.take j)
      have hsj := hs _ (List.getElem_mem hlt)
      have hrow := HM.out.row
      rw [List.take_length, List.drop_length, List.flatMap_nil, List.append_nil] at hrow
      have hml : (msR k (ps.take j)).length = j := by rw [msR_length, List.length_take]; omega
      have hsp : msR k ps = (msR k (ps.take j) ++ [(kEndR k (ps.take j), ps[j])]) ++ msR (kEndR k (ps.take (j+1))) (ps.drop (j+1)) := by
        conv => lhs; rw [← List.take_append_drop (j+1) ps, msR_append]
        rw [List.take_succ_eq_append_getElem hlt, msR_append, kEndR_append]; rfl
      have hget := fun m hm => mk_getR (msR k (ps.take j)) (kEndR k (ps.take j)) ps[j] ((msR (kEndR k (ps.take (j+1))) (ps.drop (j+1))).flatMap mkCells) j m hml hm
      rw [← List.flatMap_append, ← hsp] at hget
      have hdn := HM.out.done j hlt hlt
      have hxl : ((msR k ps).flatMap mkCells).length = ps.length * 8 := by rw [mkCells_len, msR_length]
      obtain ⟨K, hK⟩ : ∃ K, kEndR k (ps.take j) = K := ⟨_, rfl⟩
      rw [hK] at hget hKe hK0 HKn hdn ⊢
      clear hsp hml hK
      obtain ⟨xs, hxs⟩ : ∃ xs, (msR k ps).flatMap mkCells = xs := ⟨_, rfl⟩
      rw [hxs] at hrow hget hxl
      clear hxs
      have hcell : ∀ m (hm : m < 8) w', Ext w w' → w'.cell? ⟨g, j * 8 + m, none⟩ = (mkCells (K, ps[j]))[m]? := fun m hm w' e => by
        rw [(Own.ext hrow e).cellAt (j * 8 + m) (by omega)]; exact hget m hm
      have hb : g < w.heap.size := (World.ownsRow.lt hrow g rfl).2
      obtain ⟨Ab, cb, An, cn, At, ct, Ak, ck, v1, v2, v3, v4, r1, r2, r3, r4⟩ := hdn.rd hsj
      have q0 := hcell 0 (by omega); have q1 := hcell 1 (by omega); have q2 := hcell 2 (by omega); have q3 := hcell 3 (by omega); have q4 := hcell 4 (by omega); have q5 := hcell 5 (by omega); have q6 := hcell 6 (by omega); have q7 := hcell 7 (by omega)
      simp only [mkCells, List.getElem?_cons_succ, List.getElem?_cons_zero, v1, v2, v3, v4, Nat.add_zero] at q0 q1 q2 q3 q4 q5 q6 q7
      have HKN : Hid (kEndR k (ps.take (j+1)) = K + 4 + ps[j].r.bytes.length + ps[j].r.names.length + ps[j].r.tags.length + ps[j].r.kids.length) := by show _ = _; rw [HKn.out]; unfold mlen; omega
      have hKe' : K + 4 + ps[j].r.bytes.length + ps[j].r.names.length + ps[j].r.tags.length + ps[j].r.kids.length ≤ 1099511627776 := by unfold mlen at hKe; omega
      clear hcell hget hdn hrow v1 v2 v3 v4 hsj HKn hKe hxl
      obtain ⟨s1, s2, s3, s4⟩ := (⟨r1.len, r2.len, r3.len, r4.len⟩ : _ ∧ _ ∧ _ ∧ _)
      simp only [List.length_range] at s1 s2 s3 s4
      generalize ps[j].r.bytes.length = nb at *
      generalize ps[j].r.names.length = nn at *
      generalize ps[j].r.tags.length = nt at *
      generalize ps[j].r.kids.length = nk at *
      have MT : Hid (∀ w, Gives Try.prog 70 #[.int .i64 (K : Int)] w (.string (markT K))) := fun w => markText_c K w (by omega) (by omega)
      have C1 : Hid (∀ w', Ext w w' → Gives Try.prog 74 #[.slice Ab nb cb, .int .i64 ((K : Int) + 4)] w' (.int .i64 ((K : Int) + 4 + nb))) := fun w' e => heldByteS_c Ab nb cb _ w' (r1.ext e) (by omega) (by omega)
      have C2 : Hid (∀ w', Ext w w' → Gives Try.prog 75 #[.slice An nn cn, .int .i64 ((K + 4 + nb : Nat) : Int)] w' (.int .i64 ((K + 4 + nb + nn : Nat) : Int))) := fun w' e => heldStringS_c An nn cn _ w' (r2.ext e) (by omega) (by omega)
      have C3 : Hid (∀ w', Ext w w' → Gives Try.prog 76 #[.slice At nt ct, .int .i64 ((K + 4 + nb + nn : Nat) : Int)] w' (.int .i64 (((K + 4 + nb + nn : Nat) : Int) + nt))) := fun w' e => heldIntS_c At nt ct _ w' (r3.ext e) (by omega) (by omega)
      have C4 : Hid (∀ w', Ext w w' → Gives Try.prog 76 #[.slice Ak nk ck, .int .i64 ((K + 4 + nb + nn + nt : Nat) : Int)] w' (.int .i64 (((K + 4 + nb + nn + nt : Nat) : Int) + nk))) := fun w' e => heldIntS_c Ak nk ck _ w' (r4.ext e) (by omega) (by omega)
      clear r1 r2 r3 r4
      simp only [show (K : Int) + 2 = (K : Int) + 1 + 1 by omega] at q2
      simp only [show (K : Int) + 3 = (K : Int) + 1 + 1 + 1 by omega] at q3
      generalize markT K = s at *
      have hs1 : (s.toList != s.toList) = false := by simp
      have b1 : (j : Int) < (ps.length : Int) := by omega
      go_wp2_with fail
      refine wp_region_quiet_below (by kernel_rfl) (by kernel_rfl) ?_
      repeat (go_big_quiet_step ((go_at_call 70; exact Calls.regrown_of (MT.out _))))
      refine wpQuiet_nil ?_
      rintro w1 ⟨⟨nq, osq⟩, hq⟩
      have ew1 := ext_of_q hq
      clear hq nq osq
      have e1 := he.trans ew1
      go_wp2_with fail
      rw [show (K : Int) + 1 + 1 + 1 + 1 = (K : Int) + 4 by omega]
      refine (C1.out _ e1).mono ?_; rintro _ w2 ⟨rfl, s2⟩
      have e2 := e1.trans s2
      have d1 : decide ((K : Int) + 4 + (nb : Int) < 0) = false := decide_eq_false (by omega)
      go_wp2_with fail
      rw [show (K : Int) + 4 + (nb : Int) = ((K + 4 + nb : Nat) : Int) by omega]
      refine (C2.out _ e2).mono ?_; rintro _ w3 ⟨rfl, s3⟩
      have e3 := e2.trans s3
      generalize hN1 : K + 4 + nb + nn = N1 at *
      have HN1 := Lib.hid hN1; clear hN1
      have d2 : decide ((N1 : Int) < 0) = false := decide_eq_false (by omega)
      go_wp2_with fail
      refine (C3.out _ e3).mono ?_; rintro _ w4 ⟨rfl, s4⟩
      have e4 := e3.trans s4
      have d3 : decide ((N1 : Int) + (nt : Int) < 0) = false := decide_eq_false (by omega)
      go_wp2_with fail
      rw [show (N1 : Int) + (nt : Int) = ((N1 + nt : Nat) : Int) by omega]
      refine (C4.out _ e4).mono ?_; rintro _ w5 ⟨rfl, s5⟩
      have e5 := e4.trans s5
      generalize hN2 : N1 + nt = N2 at *
      have HN2 := Lib.hid hN2; clear hN2
      have d4 : decide ((N2 : Int) + (nk : Int) < 0) = false := decide_eq_false (by omega)
      go_wp2
      go_roundw
      case rel => exact ⟨j + 1, by omega, by go_num, by rw [HKN.out]; have := HN1.out; have := HN2.out; go_num, e5⟩
      case measure => simp [intOf]; omega
    · obtain rfl : j = ps.length := by omega
      go_wp2
      go_ret
      rw [List.take_length]
      exact ⟨rfl, he⟩
/-- a description whose rules are marked from k on -/
structure DMarked (lo hi : Nat) (w : World) (v : Value) (ps : List RV) (k : Nat) : Prop where
  own : ∃ w0 : World, w0.heap.size = lo ∧ (v = .slice none 0 0 ∧ ps = [] ∨ ∃ g c, v = .slice (some ⟨g, 0, none⟩) ps.length c ∧ MarkingR w0 w g c ps k ps.length)
theorem DMarked.ext {lo hi : Nat} {w w' : World} {v : Value} {ps : List RV} {k : Nat} (h : DMarked lo hi w v ps k) (e : Ext w w') : DMarked lo hi w' v ps k := by
  obtain ⟨w0, h0, h1⟩ := h.own
  exact ⟨w0, h0, h1.imp id (fun ⟨g, c, a, b⟩ => ⟨g, c, a, b.ext e⟩)⟩
set_option maxHeartbeats 1000000 in
/-- the marks laid over a description, with what they leave -/
theorem markDescK_c (A : Option Addr) (n c : Nat) (ps : List RV) (k : Nat) (lo hi : Nat) (w : World) (hn : n = ps.length) (h : DMade lo hi w (.slice A n c) ps) (hs : ∀ p ∈ ps, ShortR p.r) (hk : 0 < k) (hk2 : kEndR k ps ≤ 100000000) :
    Calls Try.prog 12 #[vdesc (.slice A n c), .int .i64 k] w fun e w' => e = .returned (.int .i64 (kEndR k ps : Nat)) ∧ DMarked lo hi w' (.slice A n c) ps k ∧ Wrote lo hi w w' := by
  subst hn
  obtain ⟨⟨w0, h0, h1⟩, hb⟩ := h
  subst h0
  have eb := Ext_alloc (.cells #[.slice A ps.length c] 28) (Ext.refl w)
  have h1' := h1.ext eb
  have hkg := kEndR_ge k ps
  have C : Hid (Calls Try.prog 39 #[.slice A ps.length c, .int .i64 k] (w.alloc (.cells #[.slice A ps.length c] 28)) fun e w' => e = .returned (.int .i64 (kEndR k ps : Nat)) ∧ DMarked w0.heap.size hi w' (.slice A ps.length c) ps k ∧ Wrote w0.heap.size hi (w.alloc (.cells #[.slice A ps.length c] 28)) w') := by
    rcases h1'.row.2 with ⟨hv, h0⟩ | ⟨g, cap, cur, hv, _⟩
    · injection hv with q1 q2 q3
      subst q1; subst q3
      obtain rfl : ps = [] := List.eq_nil_of_length_eq_zero h0
      have hk64 : (k : Int) ≤ 100000000 := by simp only [kEndR] at hk2; omega
      have DM : Hid (∀ w', DMarked w0.heap.size hi w' (.slice none 0 0) [] k) := fun w' => ⟨w0, rfl, .inl ⟨rfl, rfl⟩⟩
      clear h1 h1' hb hs hk2 hkg h0
      show Calls _ _ _ _ _
      go_enter Try.func39, Try.ntmps39
      go_wp2
      go_loopw [1, 5] (fun kk i wr => i = .int .i64 0 ∧ kk = .int .i64 k ∧ Wrote w0.heap.size hi (w.alloc (.cells #[.slice none 0 0] 28)) wr) (fun _ _ _ => 0)
      case atStart => exact ⟨rfl, rfl, Wrote.refl _ _ _⟩
      case round =>
        obtain ⟨rfl, rfl, he'⟩ := hrel
        go_wp2
        go_ret
        exact ⟨rfl, DM.out _, he'⟩
    · injection hv with q1 q2 q3
      subst q1; subst q3
      exact (markRuleS_c g c ps k w0 _ hi h1' hb hk (by omega) hs).mono fun e w' ⟨a, m, b⟩ => ⟨a, ⟨w0, rfl, .inr ⟨g, c, rfl, m⟩⟩, b⟩
  have W0 : Hid (Wrote w0.heap.size hi w (w.alloc (.cells #[.slice A ps.length c] 28))) := Wrote.ext eb
  clear h1 h1' hb hs
  unfold vdesc
  generalize kEndR k ps = K at *
  go_enter Try.func12, Try.ntmps12
  go_wp2_with fail
  refine C.out.mono ?_; rintro _ w1 ⟨rfl, hm, hw⟩
  have HW := Lib.hid hw; have HM := Lib.hid hm; clear hw hm
  go_wp2
  go_ret
  exact ⟨rfl, HM.out, W0.out.trans HW.out⟩
set_option maxHeartbeats 1000000 in
theorem heldDesc_c (A : Option Addr) (n c : Nat) (ps : List RV) (k : Nat) (lo hi : Nat) (w : World) (hn : n = ps.length) (h : DMarked lo hi w (.slice A n c) ps k) (hs : ∀ p ∈ ps, ShortR p.r) (hk : 0 < k) (hk2 : kEndR k ps ≤ 100000000) :
    Gives Try.prog 13 #[vdesc (.slice A n c), .int .i64 k] w (.int .i64 (kEndR k ps : Nat)) := by
  subst hn
  have eb := Ext_alloc (.cells #[.slice A ps.length c] 28) (Ext.refl w)
  have hkg := kEndR_ge k ps
  have C : Hid (Gives Try.prog 40 #[.slice A ps.length c, .int .i64 k] (w.alloc (.cells #[.slice A ps.length c] 28)) (.int .i64 (kEndR k ps : Nat))) := by
    obtain ⟨w0, _, h1⟩ := (h.ext eb).own
    rcases h1 with ⟨hv, hp⟩ | ⟨g, c', hv, hm⟩
    · subst hp
      injection hv with q1 q2 q3
      subst q1; subst q3
      have hk64 : (k : Int) ≤ 100000000 := by simp only [kEndR] at hk2; omega
      clear h hs hk2 hkg
      show Gives _ _ _ _ _
      unfold kEndR
      go_enter Try.func40, Try.ntmps40
      go_wp2
      go_loopw [1, 5] (fun kk i wr => i = .int .i64 0 ∧ kk = .int .i64 k ∧ Ext (w.alloc (.cells #[.slice none 0 0] 28)) wr) (fun _ _ _ => 0)
      case atStart => exact ⟨rfl, rfl, Ext.refl _⟩
      case round =>
        obtain ⟨rfl, rfl, he'⟩ := hrel
        go_wp2
        go_ret
        exact ⟨rfl, he'⟩
    · injection hv with q1 q2 q3
      subst q1; subst q3
      exact heldRuleS_c g c ps k w0 _ hm hk (by omega) hs
  clear h hs
  unfold vdesc
  generalize kEndR k ps = K at *
  have d1 : decide ((K : Int) < 0) = false := decide_eq_false (by omega)
  go_enter Try.func13, Try.ntmps13
  go_wp2_with fail
  refine C.out.mono ?_; rintro _ w1 ⟨rfl, s1⟩
  go_wp2
  go_ret
  exact ⟨rfl, eb.trans s1⟩
end Go.Proofs.Ytalnekcmfagjoaa
