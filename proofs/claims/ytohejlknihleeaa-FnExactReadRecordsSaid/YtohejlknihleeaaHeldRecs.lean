/- The laws' test of marked records. -/
import Derived.Test.YtohejlknihleeaaRecsLaw
namespace Go.Proofs.Ytohejlknihleeaa
open Go.RowKit Go.Sort

theorem msOf_get (k : Nat) (ps : List (DRec × Value)) (i : Nat) (h : i < ps.length) : (msOf k ps)[i]? = some (kEnd k (ps.take i), ps[i].1.l.length, ps[i].2) := by
  induction ps generalizing k i with
  | nil => simp at h
  | cons p t ih =>
    cases i with
    | zero => rfl
    | succ i =>
      have := ih (k + 3 + p.1.l.length) i (by simpa using h)
      simpa [msOf, kEnd] using this
theorem mcells_get : ∀ (ms : List (Nat × Nat × Value)) (i j : Nat) (h : i < ms.length), j < 4 → (ms.flatMap mcells)[i * 4 + j]? = (mcells ms[i])[j]? := by
  intro ms
  induction ms with
  | nil => intro i j h; simp at h
  | cons p t ih =>
    intro i j h hj
    rw [List.flatMap_cons]
    cases i with
    | zero =>
      rw [List.getElem?_append_left (by simp [mcells]; omega)]
      simp
    | succ i =>
      rw [List.getElem?_append_right (by simp [mcells]; omega)]
      have : (i + 1) * 4 + j - (mcells p).length = i * 4 + j := by simp [mcells]; omega
      rw [this, ih i j (by simpa using h) hj]
      simp
/-- a slice of marked records -/
def RdM (w : World) (A : Option Addr) (ps : List (DRec × Value)) (k c : Nat) : Prop :=
  ps.length ≤ c ∧ (∀ i (h : i < ps.length), ∃ A' c', ps[i].2 = .slice A' ps[i].1.l.length c' ∧ Rd (mk8 ((kEnd k (ps.take i) : Nat) + 3 : Int)) w A' (List.range ps[i].1.l.length) c') ∧
  (0 < ps.length → ∃ b, A = some ⟨b, 0, none⟩ ∧ b < w.heap.size ∧ ∀ (w' : World), Ext w w' → ∀ i (h : i < ps.length), w'.cell? ⟨b, i * 4, none⟩ = some (.int .i64 (kEnd k (ps.take i) : Nat)) ∧ w'.cell? ⟨b, i * 4 + 1, none⟩ = some (.string (markT (kEnd k (ps.take i) + 1))) ∧
    w'.cell? ⟨b, i * 4 + 2, none⟩ = some (.int .i64 ((kEnd k (ps.take i) : Nat) + 2)) ∧ w'.cell? ⟨b, i * 4 + 3, none⟩ = some ps[i].2)
theorem RdM.ext {w w1 : World} {A : Option Addr} {ps : List (DRec × Value)} {k c : Nat} (h : RdM w A ps k c) (e : Ext w w1) : RdM w1 A ps k c :=
  ⟨h.1, fun i hi => let ⟨A', c', h1, h2⟩ := h.2.1 i hi; ⟨A', c', h1, h2.ext e⟩, fun hp => let ⟨b, h1, h2, h3⟩ := h.2.2 hp; ⟨b, h1, Nat.lt_of_lt_of_le h2 e.size, fun w' e' => h3 w' (e.trans e')⟩⟩
theorem Marking.rd {w0 w : World} {g c : Nat} {ps : List (DRec × Value)} {k : Nat} (h : Marking w0 w g c ps k ps.length) (hd : ∀ p ∈ ps, p.1.l.length ≤ 140737488351232) : RdM w (some ⟨g, 0, none⟩) ps k c := by
  obtain ⟨m1, m2, _⟩ := h
  rw [List.take_length, List.drop_length, List.flatMap_nil, List.append_nil] at m1
  refine ⟨?_, fun i hi => ?_, fun hp => ?_⟩
  · rcases m1.2 with ⟨hv, h0⟩ | ⟨g', cap, cur, hv, hb, hg, hnc, hcm, hcs, htake⟩
    · cases hv
    · injection hv with _ _ h3; omega
  · obtain ⟨A', c', hv, hr⟩ := Own.rd (m2 i hi hi) (by rw [List.length_range]; exact hd _ (List.getElem_mem hi))
    rw [List.length_range] at hv
    exact ⟨A', c', hv, hr⟩
  · have hlt := (World.ownsRow.lt m1 g rfl).2
    refine ⟨g, rfl, hlt, fun w' e i hi => ?_⟩
    have m1' := Own.ext m1 e
    have hi' : i < (msOf k ps).length := by rw [msOf_length]; exact hi
    have hget := msOf_get k ps i hi
    rw [List.getElem?_eq_getElem hi'] at hget
    injection hget with hget
    have hc : ∀ j, j < 4 → w'.cell? ⟨g, i * 4 + j, none⟩ = (mcells (kEnd k (ps.take i), ps[i].1.l.length, ps[i].2))[j]? := by
      intro j hj
      rw [m1'.cellAt (i * 4 + j) (by omega), mcells_get _ i j hi' hj, hget]
    exact ⟨by have := hc 0 (by omega); simpa [mcells] using this, by have := hc 1 (by omega); simpa [mcells] using this, by have := hc 2 (by omega); simpa [mcells] using this, by have := hc 3 (by omega); simpa [mcells] using this⟩
set_option maxRecDepth 100000 in
set_option maxHeartbeats 2000000 in
theorem heldRecordS_c (A : Option Addr) (ps : List (DRec × Value)) (k c : Nat) (w : World) (h : RdM w A ps k c) (hk : 0 < k) (hk2 : kEnd k ps ≤ 1099511627776) :
    Gives Try.prog 57 #[.slice A ps.length c, .int .i64 k] w (.int .i64 (kEnd k ps : Nat)) := by
  have hn := kEnd_ge k ps
  go_enter Try.func57, Try.ntmps57
  go_wp2
  go_loopw [1, 5] (fun kk i wr => ∃ j : Nat, j ≤ ps.length ∧ i = .int .i64 j ∧ kk = .int .i64 (kEnd k (ps.take j) : Nat) ∧ Ext w wr) (fun _ i _ => ps.length - (intOf i).toNat)
  case atStart => exact ⟨0, by omega, rfl, rfl, Ext.refl _⟩
  case round =>
    obtain ⟨j, hj, rfl, rfl, he⟩ := hrel
    by_cases hlt : j < ps.length
    · obtain ⟨b, rfl, hb, hc⟩ := h.2.2 (by omega)
      obtain ⟨A1, c1, hv1, r1⟩ := h.2.1 j hlt
      have hcj := fun w' e => hc w' e j hlt
      rw [hv1] at hcj
      have hKn : kEnd k (ps.take (j+1)) = kEnd k (ps.take j) + 3 + ps[j].1.l.length := by
        rw [List.take_succ_eq_append_getElem hlt, kEnd_append]; rfl
      have hKe := kEnd_mono k ps (j+1)
      rw [hKn] at hKe
      have hK0 : k ≤ kEnd k (ps.take j) := by have := kEnd_ge k (ps.take j); omega
      generalize kEnd k (ps.take j) = K at *
      have HKn := Lib.hid hKn; clear hKn hv1 hc h
      have MT : Hid (∀ w, Gives Try.prog 96 #[.int .i64 ((K : Int) + 1)] w (.string (markT (K + 1)))) := fun w => markText_c (K + 1) w (by omega) (by omega)
      have HB : Hid (∀ w, Rd (mk8 ((K : Int) + 3)) w A1 (List.range ps[j].1.l.length) c1 → Gives Try.prog 41 #[.slice A1 ps[j].1.l.length c1, .int .i64 ((K : Int) + 3)] w (.int .i64 ((K : Int) + 3 + ps[j].1.l.length))) := fun w h => heldByteS_c _ _ _ _ w h (by omega) (by omega)
      have hk0 := fun w' e => (hcj w' e).1; have hk1 := fun w' e => (hcj w' e).2.1; have hk2 := fun w' e => (hcj w' e).2.2.1; have hk3 := fun w' e => (hcj w' e).2.2.2
      clear hcj
      go_wp2
      refine wp_region_quiet_below (by kernel_rfl) (by kernel_rfl) ?_
      repeat (go_big_quiet_step ((go_at_call 96; exact Calls.regrown_of (MT.out _))))
      refine wpQuiet_nil ?_
      rintro w1 ⟨⟨nq, osq⟩, hq⟩
      have ew1 := ext_of_q hq
      clear hq nq osq
      have he1 := he.trans ew1
      go_wp2_with fail
      rw [show (K : Int) + 1 + 1 + 1 = (K : Int) + 3 by omega]
      refine (HB.out _ (r1.ext he1)).mono ?_; rintro _ w2 ⟨rfl, he2⟩
      go_wp2
      go_roundw
      case rel => exact ⟨j + 1, by omega, by go_num, by rw [HKn.out]; go_num, he1.trans he2⟩
      case measure => simp [intOf]; omega
    · obtain rfl : j = ps.length := by omega
      go_wp2
      go_ret
      rw [List.take_length]
      exact ⟨rfl, he⟩
end Go.Proofs.Ytohejlknihleeaa
