/- The walk of the law on ReadRecords. -/
import Derived.Test.YtohejlknihleeaaHeldRecs
namespace Go.Proofs.Ytohejlknihleeaa
open Go.RowKit Go.Sort

theorem OwnR.kept {w0 w w' : World} {v : Value} {ps : List (DRec × Value)} (h : OwnR w0 w v ps) {row : Option Nat} (hg : w.grownBy w' row) (hr : ∀ g, row = some g → g < w0.heap.size) : OwnR w0 w' v ps := by
  refine ⟨Own.kept' h.1 hg ?_, fun p hp => OwnL.kept (h.2.1 p hp) hg hr, h.2.2⟩
  intro g hv he
  have h1 := (World.ownsRow.lt h.1 g hv).1
  have h2 := hr g he
  omega
theorem recs_dlen (b : List UInt8) (a : Nat) : ∀ r ∈ recs b a, r.l.length ≤ 400 := by
  have key : ∀ f a, ∀ r ∈ (readF f b a).1, r.l.length ≤ 400 := by
    intro f
    induction f with
    | zero => intro a r hr; simp [readF] at hr
    | succ f ih =>
      intro a r hr
      rw [readF] at hr
      cases hd : decN b a with
      | none => rw [hd] at hr; simp at hr
      | some x =>
        rw [hd] at hr
        simp only [List.mem_cons] at hr
        rcases hr with rfl | hr
        · have := validRec_facts (decN_some hd).2.1; omega
        · exact ih _ r hr
  exact key _ a
/-- marks laid over records, whatever their slice is -/
theorem markRecords_any (v : Value) (ps : List (DRec × Value)) (w0 w : World) (h : OwnR w0 w v ps) (he : Ext w0 w) (hk2 : kEnd 1 ps ≤ 1099511627776) (hd : ∀ p ∈ ps, p.1.l.length ≤ 140737488351232) :
    Calls Try.prog 56 #[v, .int .i64 1] w fun e w' => e = .returned (.int .i64 (kEnd 1 ps : Nat)) ∧ (∃ A c, v = .slice A ps.length c ∧ RdM w' A ps 1 c) ∧ Ext w0 w' := by
  rcases h.1.2 with ⟨rfl, h0⟩ | ⟨g, cap, cur, rfl, hb, hg, hnc, hcm, hcs, htake⟩
  · obtain rfl : ps = [] := List.eq_nil_of_length_eq_zero h0
    clear h h0 hk2 hd
    go_enter Try.func56, Try.ntmps56
    go_wp2
    go_loopw [1, 5] (fun kk i wr => i = .int .i64 0 ∧ kk = .int .i64 1 ∧ Ext w0 wr) (fun _ _ _ => 0)
    case atStart => exact ⟨rfl, rfl, he⟩
    case round =>
      obtain ⟨rfl, rfl, he'⟩ := hrel
      go_wp2
      go_ret
      exact ⟨rfl, ⟨none, 0, rfl, ⟨by simp, fun i hi => by simp at hi, fun hp => by simp at hp⟩⟩, he'⟩
  · exact (markRecordS_c g cap ps 1 w0 w h he (by omega) hk2 hd).mono fun e w' ⟨h1, h2, h3⟩ => ⟨h1, ⟨_, _, rfl, h2.rd hd⟩, h3⟩
set_option maxRecDepth 100000 in
set_option maxHeartbeats 4000000 in
theorem lawReadRecords_c (A : Option Addr) (l : List UInt8) (c : Nat) (w : World) (h : Rd0 vu8 w A l c) :
    Gives Try.prog 11 #[.slice A l.length c] w (.bool true) := by
  have hl := h.len
  by_cases hL : l.length ≤ 1048576
  · have hL' : l.length ≤ 140737488351232 := by omega
    have hL2 : l.length ≤ 1099511627776 := by omega
    have hdl := recs_dlen l 0
    have hcl : (recs l 0).length ≤ 1048576 := by have := recs_le (b := l) (a := 0) (by omega); omega
    have C1 := Lib.hid (fun A c w h => sReadRecords_c A l c w h hL2); have C2 := Lib.hid (fun A c w h => iReadRecords_c A l c w h hL2)
    generalize recs l 0 = R at *
    generalize stop l 0 = j at *
    have hlen : ∀ ps : List (DRec × Value), ps.map Prod.fst = R → ps.length ≤ 1099511627776 := fun ps hp => by have := congrArg List.length hp; rw [List.length_map] at this; omega
    have hdat : ∀ ps : List (DRec × Value), ps.map Prod.fst = R → ∀ p ∈ ps, p.1.l.length ≤ 140737488351232 := fun ps hp p hm => by have := hdl p.1 (by rw [← hp]; exact List.mem_map_of_mem hm); omega
    have hkend : ∀ ps : List (DRec × Value), ps.map Prod.fst = R → kEnd 1 ps ≤ 1099511627776 := fun ps hp => by
      have h1 := kEnd_le 1 400 ps (fun p hm => hdl p.1 (by rw [← hp]; exact List.mem_map_of_mem hm))
      have h2 := congrArg List.length hp
      rw [List.length_map] at h2
      omega
    have HLEN := Lib.hid hlen; have HDAT := Lib.hid hdat; have HKE := Lib.hid hkend
    have HJ : (((j : Nat) : Int) != (j : Int)) = false := by simp
    have hd : decide ((1048576 : Int) < (l.length : Int)) = false := by simp; omega
    clear hdl hcl hlen hdat hkend
    go_enter Try.func11, Try.ntmps11
    go_wp2_with fail
    refine (toByteS_c _ _ _ _ h hL).mono ?_; rintro _ w1 ⟨v1, rfl, ho1, he1⟩; obtain ⟨A1, c1, rfl, r1⟩ := OwnL.rd ho1 hL'; clear ho1
    go_wp2_with fail
    refine (C1.out _ _ _ r1).mono ?_; rintro _ w2 ⟨v2, ps2, rfl, hp2, ho2, he2⟩; obtain ⟨A2, c2, rfl, r2⟩ := ho2.rd (HLEN.out _ hp2) (HDAT.out _ hp2)
    have HP2 := Lib.hid hp2
    have b2 := he1.trans he2; clear he1 he2 r1 ho2 hp2
    go_wp2_with fail
    refine (toByteS_c _ _ _ _ (h.ext b2) hL).mono ?_; rintro _ w3 ⟨v3, rfl, ho3, he3⟩; obtain ⟨A3, c3, rfl, r3⟩ := OwnL.rd ho3 hL'
    go_wp2_with fail
    refine (C2.out _ _ _ r3).mono ?_; rintro _ w4 ⟨v4, ps4, rfl, hp4, ho4, he4⟩; obtain ⟨A4, c4, rfl, r4⟩ := ho4.rd (HLEN.out _ hp4) (HDAT.out _ hp4)
    have HP4 := Lib.hid hp4; clear hp4
    have e24 := he3.trans he4
    go_wp2_with fail
    refine (eqRecordS_c _ _ _ _ _ _ _ r4 (r2.ext e24) (HP4.out.trans HP2.out.symm)).mono ?_; rintro _ w5 ⟨rfl, he5⟩
    have e25 := e24.trans he5; have e35 := he4.trans he5
    go_wp2_with fail
    refine (toByteS_c _ _ _ _ (h.ext (b2.trans e25)) hL).mono ?_; rintro _ w6 ⟨v6, rfl, ho6, he6⟩; obtain ⟨A6, c6, rfl, r6⟩ := OwnL.rd ho6 hL'
    have e26 := e25.trans he6; have e36 := e35.trans he6; have e46 := he5.trans he6; clear e25 e35 he5 he6 e24
    go_wp2_with fail
    refine (eqByteS_c _ _ _ _ _ _ _ (r3.ext e36) r6).mono ?_; rintro _ w7 ⟨rfl, he7⟩
    have e27 := e26.trans he7; have e37 := e36.trans he7; have e47 := e46.trans he7; clear e26 e36 e46 he7 r6 ho6 r3 r4
    have o37 := OwnL.ext ho3 e37; have o47 := OwnR.ext ho4 e47
    have HB3 := Lib.hid (OwnL.block ho3)
    clear ho4
    go_wp2_with fail
    refine (markByteS_c _ _ _ _ _ _ _ o37 (by omega) (by omega)).mono ?_; rintro _ w8 ⟨rfl, _, hg8⟩
    have e28 := e27.grown hg8 (fun k hk => (World.ownsRow.lt o37 k hk).1)
    have o48 := OwnR.kept o47 hg8 HB3.out
    obtain ⟨A8, c8, hv8, r8⟩ := o48.rd (HLEN.out _ HP4.out) (HDAT.out _ HP4.out); injection hv8 with q1 _ q2; subst q1; subst q2
    clear hg8 o37 o47 e27 e37 e47
    go_wp2_with fail
    refine (eqRecordS_c _ _ _ _ _ _ _ r8 (r2.ext e28) (HP4.out.trans HP2.out.symm)).mono ?_; rintro _ w9 ⟨rfl, he9⟩
    have e29 := e28.trans he9
    have o49 := OwnR.lower (OwnR.ext o48 he9) he3
    clear r8 o48 e28
    go_wp2_with fail
    refine (markRecords_any _ _ _ _ o49 e29 (HKE.out _ HP4.out) (HDAT.out _ HP4.out)).mono ?_; rintro _ w10 ⟨rfl, ⟨A10, c10, hv10, ra⟩, e2a⟩
    injection hv10 with q1 _ q2; subst q1; subst q2
    go_wp2_with fail
    refine (heldRecordS_c _ _ _ _ _ ra (by omega) (HKE.out _ HP4.out)).mono ?_; rintro _ w11 ⟨rfl, he11⟩
    have e2b := e2a.trans he11
    go_wp2_with fail
    refine (toByteS_c _ _ _ _ (h.ext (b2.trans e2b)) hL).mono ?_; rintro _ w12 ⟨v12, rfl, ho12, he12⟩; obtain ⟨A12, c12, rfl, r12⟩ := OwnL.rd ho12 hL'
    go_wp2_with fail
    refine (C2.out _ _ _ r12).mono ?_; rintro _ w13 ⟨v13, ps13, rfl, hp13, ho13, he13⟩; obtain ⟨A13, c13, rfl, r13⟩ := ho13.rd (HLEN.out _ hp13) (HDAT.out _ hp13)
    have HP13 := Lib.hid hp13; clear hp13
    have eb := (he11.trans he12).trans he13
    go_wp2_with fail
    refine (eqRecordS_c _ _ _ _ _ _ _ r13 (r2.ext (e2a.trans eb)) (HP13.out.trans HP2.out.symm)).mono ?_; rintro _ w14 ⟨rfl, he14⟩
    go_wp2_with fail
    refine (heldRecordS_c _ _ _ _ _ (ra.ext (eb.trans he14)) (by omega) (HKE.out _ HP4.out)).mono ?_; rintro _ w15 ⟨rfl, he15⟩
    go_wp2
    go_ret
    exact ⟨rfl, (b2.trans e2a).trans ((eb.trans he14).trans he15)⟩
  · have hd : decide ((1048576 : Int) < (l.length : Int)) = true := by simp; omega
    go_enter Try.func11, Try.ntmps11
    go_wp2
    go_ret
    exact ⟨rfl, Ext.refl _⟩
end Go.Proofs.Ytohejlknihleeaa
