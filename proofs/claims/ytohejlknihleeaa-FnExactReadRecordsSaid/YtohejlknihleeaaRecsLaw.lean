/- The laws' helpers over slices of records: comparison, marks. -/
import Derived.Test.YtohejlknihleeaaRead
import Derived.Test.YtohejlknihleeaaMarkText
import Derived.Test.YtohejlknihleeaaBytes
namespace Go.Proofs.Ytohejlknihleeaa
open Go.RowKit Go.Sort

theorem rcells_get : ∀ (ps : List (DRec × Value)) (i j : Nat) (h : i < ps.length), j < 4 → (ps.flatMap rcells)[i * 4 + j]? = (rcells ps[i])[j]? := by
  intro ps
  induction ps with
  | nil => intro i j h; simp at h
  | cons p t ih =>
    intro i j h hj
    rw [List.flatMap_cons]
    cases i with
    | zero =>
      rw [List.getElem?_append_left (by simp [rcells]; omega)]
      simp
    | succ i =>
      rw [List.getElem?_append_right (by simp [rcells]; omega)]
      have : (i + 1) * 4 + j - (rcells p).length = i * 4 + j := by simp [rcells]; omega
      rw [this, ih i j (by simpa using h) hj]
      simp
/-- a slice of records that reads as ps -/
def RdR (w : World) (A : Option Addr) (ps : List (DRec × Value)) (c : Nat) : Prop :=
  ps.length ≤ c ∧ ps.length ≤ 1099511627776 ∧ (∀ p ∈ ps, ∃ A' c', p.2 = .slice A' p.1.l.length c' ∧ Bs w A' p.1.l c') ∧
  (0 < ps.length → ∃ b, A = some ⟨b, 0, none⟩ ∧ b < w.heap.size ∧ ∀ (w' : World), Ext w w' → ∀ i (h : i < ps.length), w'.cell? ⟨b, i * 4, none⟩ = some (.int .i64 ps[i].1.k) ∧ w'.cell? ⟨b, i * 4 + 1, none⟩ = some (.string ps[i].1.nm) ∧
    w'.cell? ⟨b, i * 4 + 2, none⟩ = some (.int .i64 ps[i].1.ver) ∧ w'.cell? ⟨b, i * 4 + 3, none⟩ = some ps[i].2)
theorem RdR.ext {w w1 : World} {A : Option Addr} {ps : List (DRec × Value)} {c : Nat} (h : RdR w A ps c) (e : Ext w w1) : RdR w1 A ps c :=
  ⟨h.1, h.2.1, fun p hp => let ⟨A', c', h1, h2⟩ := h.2.2.1 p hp; ⟨A', c', h1, h2.ext e⟩, fun hp => let ⟨b, h1, h2, h3⟩ := h.2.2.2 hp; ⟨b, h1, Nat.lt_of_lt_of_le h2 e.size, fun w' e' => h3 w' (e.trans e')⟩⟩
theorem OwnR.rd {w0 w : World} {v : Value} {ps : List (DRec × Value)} (h : OwnR w0 w v ps) (hl : ps.length ≤ 1099511627776) (hd : ∀ p ∈ ps, p.1.l.length ≤ 140737488351232) : ∃ A c, v = .slice A ps.length c ∧ RdR w A ps c := by
  have hdat : ∀ p ∈ ps, ∃ A' c', p.2 = .slice A' p.1.l.length c' ∧ Bs w A' p.1.l c' := fun p hp => OwnL.rd (h.2.1 p hp) (hd p hp)
  rcases h.1.2 with ⟨rfl, h0⟩ | ⟨g, cap, cur, rfl, hb, hg, hnc, hcm, hcs, htake⟩
  · exact ⟨none, 0, by rw [h0], by omega, hl, hdat, fun hp => by omega⟩
  · refine ⟨_, _, rfl, by omega, hl, hdat, fun hp => ⟨g, rfl, heap_lt hg, fun w' e i hi => ?_⟩⟩
    have hc : ∀ j, j < 4 → w'.cell? ⟨g, i * 4 + j, none⟩ = (rcells ps[i])[j]? := by
      intro j hj
      rw [boxed_at hg e, ← rcells_get ps i j hi hj, ← htake, List.getElem?_take, if_pos (by omega)]
      simp
    exact ⟨by have := hc 0 (by omega); simpa [rcells] using this, by have := hc 1 (by omega); simpa [rcells] using this, by have := hc 2 (by omega); simpa [rcells] using this, by have := hc 3 (by omega); simpa [rcells] using this⟩
set_option maxRecDepth 100000 in
set_option maxHeartbeats 1000000 in
theorem eqRecordS_c (A A' : Option Addr) (ps qs : List (DRec × Value)) (c c' : Nat) (w : World) (h : RdR w A ps c) (h' : RdR w A' qs c') (he : ps.map Prod.fst = qs.map Prod.fst) :
    Gives Try.prog 55 #[.slice A ps.length c, .slice A' qs.length c'] w (.bool true) := by
  have hlen : ps.length = qs.length := by have := congrArg List.length he; simpa using this
  have hn := h.2.1
  have HQ : Hid (((ps.length : Int) != (qs.length : Int)) = false) := by show _ = _; simp [hlen]
  have hq1 := HQ.out
  have HL := Lib.hid hlen; clear hlen
  go_enter Try.func55, Try.ntmps55
  go_wp2
  go_loopw [5] (fun i wr => ∃ k : Nat, k ≤ ps.length ∧ i = .int .i64 k ∧ Ext w wr) (fun i _ => ps.length - (intOf i).toNat)
  case atStart => exact ⟨0, by omega, rfl, Ext.refl _⟩
  case round =>
    obtain ⟨k, hk, rfl, hx⟩ := hrel
    by_cases hlt : k < ps.length
    · have hlt' : k < qs.length := by have := HL.out; omega
      obtain ⟨b, rfl, hb, hc⟩ := h.2.2.2 (by omega)
      obtain ⟨b', rfl, hb', hc'⟩ := h'.2.2.2 (by omega)
      obtain ⟨A1, c1, hv1, r1⟩ := h.2.2.1 ps[k] (List.getElem_mem hlt)
      obtain ⟨A2, c2, hv2, r2⟩ := h'.2.2.1 qs[k] (List.getElem_mem hlt')
      have hck := fun w' e => hc w' e k hlt
      have hck' := fun w' e => hc' w' e k hlt'
      have hee : ps[k].1 = qs[k].1 := by
        have h1 : (ps.map Prod.fst)[k]? = (qs.map Prod.fst)[k]? := by rw [he]
        simpa [hlt, hlt'] using h1
      rw [hv1] at hck; rw [hv2] at hck'
      obtain ⟨r, hr⟩ : ∃ r, qs[k].1 = r := ⟨_, rfl⟩
      rw [hr] at hck' r2 hee
      rw [hee] at hck r1
      obtain ⟨kk, nm, ver, d⟩ := r
      dsimp only at hck hck' r1 r2
      have CE := Lib.hid (fun w h h' => eqRecord_c kk nm ver A1 d c1 kk nm ver A2 d c2 w h h')
      have HE3 : Hid ((kk == kk && nm.toList == nm.toList && ver == ver && d == d) = true) := by simp [Hid]
      rw [HE3.out] at CE
      unfold vrec at CE
      have hk0 := fun w' e => (hck w' e).1; have hk1 := fun w' e => (hck w' e).2.1; have hk2 := fun w' e => (hck w' e).2.2.1; have hk3 := fun w' e => (hck w' e).2.2.2
      have hj0 := fun w' e => (hck' w' e).1; have hj1 := fun w' e => (hck' w' e).2.1; have hj2 := fun w' e => (hck' w' e).2.2.1; have hj3 := fun w' e => (hck' w' e).2.2.2
      clear hck hck' hc hc' h h' hv1 hv2 hee hr he
      go_wp2_with fail
      refine wp_region_quiet_below (by kernel_rfl) (by kernel_rfl) ?_
      repeat (go_big_quiet_step ((go_at_call 27; exact Calls.regrown_of (CE.out _ (r1.ext (by first | assumption | exact Ext_regrown _ _ hx)) (r2.ext (by first | assumption | exact Ext_regrown _ _ hx))))))
      refine wpQuiet_nil ?_
      rintro w1 ⟨⟨nq, osq⟩, hq⟩
      have ew1 := ext_of_q hq
      clear hq nq osq
      go_wp2
      go_roundw
      case rel => exact ⟨k+1, by omega, by go_num, hx.trans ew1⟩
      case measure => simp [intOf]; omega
    · obtain rfl : k = ps.length := by omega
      go_wp2
      go_ret
      exact ⟨rfl, hx⟩

theorem Own.set' {e : TypeId} {size : Nat} {w0 w : World} {v : Value} {n : Nat} {xs : List Value} (h : Own e size w0 w v n xs) (p : Addr) (u : Value) (hne : v.ownBlock ≠ some p.block) : Own e size w0 (w.setCell p u) v n xs := by
  refine World.ownsRow.kept h (⟨rfl, rfl, rfl, by simp, fun k _ hk => heap_setCell_other w p k u (fun e => hk (by rw [e]))⟩ : w.grownBy (w.setCell p u) (some p.block)) ?_
  cases hb : v.ownBlock with
  | none => exact .inl rfl
  | some g => right; rw [hb] at hne; exact fun he => hne he
theorem Own.kept' {e : TypeId} {size : Nat} {w0 w w' : World} {v : Value} {n : Nat} {xs : List Value} (h : Own e size w0 w v n xs) {row : Option Nat} (hg : w.grownBy w' row) (hne : ∀ g, v.ownBlock = some g → row ≠ some g) : Own e size w0 w' v n xs := by
  refine World.ownsRow.kept h hg ?_
  cases hb : v.ownBlock with
  | none => exact .inl rfl
  | some g => right; exact fun he => hne g hb he.symm
/-- where the marks of a record begin, how many bytes it has, its data's slice -/
def mcells (m : Nat × Nat × Value) : List Value := [.int .i64 (m.1 : Int), .string (markT (m.1 + 1)), .int .i64 ((m.1 : Int) + 2), m.2.2]
def msOf : Nat → List (DRec × Value) → List (Nat × Nat × Value)
  | _, [] => []
  | k, p :: t => (k, p.1.l.length, p.2) :: msOf (k + 3 + p.1.l.length) t
def kEnd : Nat → List (DRec × Value) → Nat
  | k, [] => k
  | k, p :: t => kEnd (k + 3 + p.1.l.length) t
theorem msOf_append (k : Nat) (a b : List (DRec × Value)) : msOf k (a ++ b) = msOf k a ++ msOf (kEnd k a) b := by
  induction a generalizing k with
  | nil => rfl
  | cons p t ih => simp [msOf, kEnd, ih]
theorem kEnd_append (k : Nat) (a b : List (DRec × Value)) : kEnd k (a ++ b) = kEnd (kEnd k a) b := by
  induction a generalizing k with
  | nil => rfl
  | cons p t ih => simp [kEnd, ih]
theorem msOf_length (k : Nat) (a : List (DRec × Value)) : (msOf k a).length = a.length := by
  induction a generalizing k with
  | nil => rfl
  | cons p t ih => simp [msOf, ih]
theorem mcells_len (ms : List (Nat × Nat × Value)) : (ms.flatMap mcells).length = ms.length * 4 := by
  induction ms with
  | nil => rfl
  | cons p t ih => rw [List.flatMap_cons, List.length_append, ih, List.length_cons]; simp [mcells]; omega
theorem kEnd_ge (k : Nat) (a : List (DRec × Value)) : k + 3 * a.length ≤ kEnd k a := by
  induction a generalizing k with
  | nil => simp [kEnd]
  | cons p t ih => have := ih (k + 3 + p.1.l.length); simp only [kEnd, List.length_cons]; omega
theorem kEnd_le (k D : Nat) (a : List (DRec × Value)) (h : ∀ p ∈ a, p.1.l.length ≤ D) : kEnd k a ≤ k + (3 + D) * a.length := by
  induction a generalizing k with
  | nil => simp [kEnd]
  | cons p t ih =>
    have h1 := ih (k + 3 + p.1.l.length) (fun q hq => h q (List.mem_cons_of_mem _ hq))
    have h2 := h p (List.mem_cons_self ..)
    simp only [kEnd, List.length_cons, Nat.mul_add] at *
    omega
theorem kEnd_mono (k : Nat) (a : List (DRec × Value)) (i : Nat) : kEnd k (a.take i) ≤ kEnd k a := by
  conv => rhs; rw [← List.take_append_drop i a, kEnd_append]
  have := kEnd_ge (kEnd k (a.take i)) (a.drop i)
  omega
/-- three cells of a record are laid -/
theorem mark_row (ms : List (Nat × Nat × Value)) (p : DRec × Value) (rest : List (DRec × Value)) (k i : Nat) (hi : ms.length = i) :
    (((ms.flatMap mcells ++ (p :: rest).flatMap rcells).set (i * 4) (.int .i64 (k : Int))).set (i * 4 + 1) (.string (markT (k + 1)))).set (i * 4 + 2) (.int .i64 ((k : Int) + 2)) = (ms ++ [(k, p.1.l.length, p.2)]).flatMap mcells ++ rest.flatMap rcells := by
  have hl : (ms.flatMap mcells).length = i * 4 := by rw [mcells_len, hi]
  rw [List.set_append_right _ _ (by omega), List.set_append_right _ _ (by omega), List.set_append_right _ _ (by omega), hl]
  rw [show i * 4 - i * 4 = 0 by omega, show i * 4 + 1 - i * 4 = 1 by omega, show i * 4 + 2 - i * 4 = 2 by omega]
  simp [rcells, mcells, List.flatMap_cons]
/-- marked records that the call since w0 made: the first i of them are marked -/
def Marking (w0 w : World) (g c : Nat) (ps : List (DRec × Value)) (k i : Nat) : Prop :=
  Own 37 4 w0 w (.slice (some ⟨g, 0, none⟩) ps.length c) ps.length ((msOf k (ps.take i)).flatMap mcells ++ (ps.drop i).flatMap rcells) ∧
  (∀ j (h : j < ps.length), j < i → Own 5 1 w0 w ps[j].2 ps[j].1.l.length ((List.range ps[j].1.l.length).map (mk8 ((kEnd k (ps.take j) : Nat) + 3 : Int)))) ∧
  (∀ j (h : j < ps.length), i ≤ j → OwnL vu8 5 w0 w ps[j].2 ps[j].1.l)
theorem OwnR.marking {w0 w : World} {g c : Nat} {ps : List (DRec × Value)} (h : OwnR w0 w (.slice (some ⟨g, 0, none⟩) ps.length c) ps) (k : Nat) : Marking w0 w g c ps k 0 :=
  ⟨by simpa [msOf] using h.1, fun j _ h0 => by omega, fun j hj _ => h.2.1 _ (List.getElem_mem hj)⟩
theorem Apart.at {v : Value} {ps : List (DRec × Value)} (h : Apart (v :: ps.map Prod.snd)) : (∀ j (hj : j < ps.length), ∀ g, v.ownBlock = some g → ps[j].2.ownBlock ≠ some g) ∧ (∀ i j (hi : i < ps.length) (hj : j < ps.length), i ≠ j → ∀ g, ps[i].2.ownBlock = some g → ps[j].2.ownBlock ≠ some g) := by
  unfold Apart at h
  rw [List.pairwise_cons] at h
  refine ⟨fun j hj g hg => h.1 _ (List.mem_map_of_mem (List.getElem_mem hj)) g hg, fun i j hi hj hne g hg hg' => ?_⟩
  have hp := List.pairwise_iff_getElem.1 h.2
  rcases Nat.lt_or_ge i j with hlt | hge
  · exact hp i j (by simpa using hi) (by simpa using hj) hlt g (by simpa using hg) (by simpa using hg')
  · exact hp j i (by simpa using hj) (by simpa using hi) (by omega) g (by simpa using hg') (by simpa using hg)

set_option maxRecDepth 100000 in
set_option maxHeartbeats 2000000 in
theorem markRecordS_c (g c : Nat) (ps : List (DRec × Value)) (k : Nat) (w0 w : World) (h : OwnR w0 w (.slice (some ⟨g, 0, none⟩) ps.length c) ps) (he : Ext w0 w) (hk : 0 < k) (hk2 : kEnd k ps ≤ 1099511627776) (hd : ∀ p ∈ ps, p.1.l.length ≤ 140737488351232) :
    Calls Try.prog 56 #[.slice (some ⟨g, 0, none⟩) ps.length c, .int .i64 k] w fun e w' => e = .returned (.int .i64 (kEnd k ps : Nat)) ∧ Marking w0 w' g c ps k ps.length ∧ Ext w0 w' := by
  have hn := kEnd_ge k ps
  have hAp := h.2.2.at
  have hM := h.marking k
  have HA1 := Lib.hid (fun j hj => hAp.1 j hj g rfl)
  have HA2 := Lib.hid hAp.2
  have HM := Lib.hid hM
  clear h hAp hM
  go_enter Try.func56, Try.ntmps56
  go_wp2
  go_loopw [1, 5] (fun kk i wr => ∃ j : Nat, j ≤ ps.length ∧ i = .int .i64 j ∧ kk = .int .i64 (kEnd k (ps.take j) : Nat) ∧ Hid (Marking w0 wr g c ps k j) ∧ Ext w0 wr) (fun _ i _ => ps.length - (intOf i).toNat)
  case atStart => exact ⟨0, by omega, rfl, rfl, HM, he⟩
  case round =>
    clear HM he
    obtain ⟨j, hj, rfl, rfl, hm, he⟩ := hrel
    by_cases hlt : j < ps.length
    · obtain ⟨K, hK⟩ : ∃ K, kEnd k (ps.take j) = K := ⟨_, rfl⟩
      have hKn : kEnd k (ps.take (j+1)) = K + 3 + ps[j].1.l.length := by
        rw [List.take_succ_eq_append_getElem hlt, kEnd_append, hK]; rfl
      have hKe := kEnd_mono k ps (j+1)
      rw [hKn] at hKe
      have hK0 : k ≤ K := by rw [← hK]; have := kEnd_ge k (ps.take j); omega
      have hdl := hd ps[j] (List.getElem_mem hlt)
      obtain ⟨m1, m2, m3⟩ := hm.out
      obtain ⟨A1, c1, hv1, r1⟩ := OwnL.rd (m3 j hlt (Nat.le_refl _)) hdl
      have hdrop : ps.drop j = ps[j] :: ps.drop (j+1) := List.drop_eq_getElem_cons hlt
      rw [hdrop] at m1
      have hlx : ((msOf k (ps.take j)).flatMap mcells).length = j * 4 := by rw [mcells_len, msOf_length, List.length_take]; omega
      have hlen : ((msOf k (ps.take j)).flatMap mcells ++ (ps[j] :: ps.drop (j+1)).flatMap rcells).length = ps.length * 4 := m1.1
      have hrow := mark_row (msOf k (ps.take j)) ps[j] (ps.drop (j+1)) K j (by rw [msOf_length, List.length_take]; omega)
      have hnext : msOf k (ps.take j) ++ [(K, ps[j].1.l.length, ps[j].2)] = msOf k (ps.take (j+1)) := by
        rw [List.take_succ_eq_append_getElem hlt, msOf_append, hK]; rfl
      rw [hnext] at hrow
      have h3 : ((msOf k (ps.take j)).flatMap mcells ++ (ps[j] :: ps.drop (j+1)).flatMap rcells)[j * 4 + 3]? = some ps[j].2 := by
        rw [List.getElem?_append_right (by omega), hlx, show j * 4 + 3 - j * 4 = 3 by omega, List.flatMap_cons]; rfl
      obtain ⟨xs, hxs⟩ : ∃ xs, (msOf k (ps.take j)).flatMap mcells ++ (ps[j] :: ps.drop (j+1)).flatMap rcells = xs := ⟨_, rfl⟩
      rw [hxs] at m1 hlen hrow h3
      obtain ⟨⟨u0, hu0⟩, hf0⟩ := m1.slot (j * 4) (by omega)
      obtain ⟨hA, heA⟩ := m1.store he (j * 4) (.int .i64 (K : Int))
      rw [hK]
      have HmA := Lib.hid hA; have HeA := Lib.hid heA; have HR := Lib.hid hrow; have H3 := Lib.hid h3; have HKn := Lib.hid hKn; have HV := Lib.hid hv1; have HLN := Lib.hid hlen
      have Hm2 := Lib.hid m2; have Hm3 := Lib.hid m3
      have MT : Hid (∀ w, Gives Try.prog 96 #[.int .i64 ((K : Int) + 1)] w (.string (markT (K + 1)))) := fun w => markText_c (K + 1) w (by omega) (by omega)
      have HK := Lib.hid hK
      clear hA heA hrow h3 hKn hv1 hlen m2 m3 m1 hK hxs hnext hlx hdrop hm
      go_wp2_with fail
      refine (MT.out _).mono ?_; rintro _ w1 ⟨rfl, he1⟩
      obtain ⟨⟨u1, hu1⟩, hf1⟩ := (HmA.out.ext he1).slot (j * 4 + 1) (by rw [List.length_set, HLN.out]; omega)
      obtain ⟨⟨u2, hu2⟩, hf2⟩ := (HmA.out.ext he1).slot (j * 4 + 2) (by rw [List.length_set, HLN.out]; omega)
      have hu3 : w1.cell? ⟨g, j * 4 + 3, none⟩ = some (.slice A1 ps[j].1.l.length c1) := by
        rw [(HmA.out.ext he1).cellAt (j * 4 + 3) (by omega), List.getElem?_set_ne (by omega), H3.out, HV.out]
      go_wp2_with fail
      rw [show (K : Int) + 1 + 1 + 1 = (K : Int) + 3 by omega, show (K : Int) + 1 + 1 = (K : Int) + 2 by omega]
      obtain ⟨hB, heB⟩ := (HmA.out.ext he1).store (HeA.out.trans he1) (j * 4 + 1) (.string (markT (K + 1)))
      obtain ⟨hC, heC⟩ := hB.store heB (j * 4 + 2) (.int .i64 ((K : Int) + 2))
      rw [HR.out] at hC
      have hstay : ∀ (v : Value) (n : Nat) (ys : List Value), Own 5 1 w0 wr v n ys → v.ownBlock ≠ some g → Own 5 1 w0 ((w1.setCell ⟨g, j * 4 + 1, none⟩ (.string (markT (K + 1)))).setCell ⟨g, j * 4 + 2, none⟩ (.int .i64 ((K : Int) + 2))) v n ys := by
        intro v n ys ho hne
        exact Own.set' (Own.set' (Own.ext (Own.set' ho ⟨g, j * 4, none⟩ _ hne) he1) ⟨g, j * 4 + 1, none⟩ _ hne) ⟨g, j * 4 + 2, none⟩ _ hne
      have od := hstay _ _ _ (Hm3.out j hlt (Nat.le_refl _)) (HA1.out j hlt)
      rw [HV.out] at od
      have HST := Lib.hid hstay; have HC := Lib.hid hC; have HeC := Lib.hid heC
      clear hstay hB hC heB heC
      refine (markByteS_c A1 _ c1 ((K : Int) + 3) _ w0 _ od (by omega) (by omega)).mono ?_; rintro _ w2 ⟨rfl, om, hg⟩
      have hrowb : (Value.slice A1 ps[j].1.l.length c1).ownBlock = ps[j].2.ownBlock := by rw [HV.out]
      have hfin : Marking w0 w2 g c ps k (j + 1) := by
        refine ⟨Own.kept' HC.out hg ?_, fun i hi hij => ?_, fun i hi hij => ?_⟩
        · intro g' hg' he'
          rw [hrowb] at he'
          have : g' = g := by injection hg' with hg'; exact hg'.symm
          exact HA1.out j hlt (by rw [he', this])
        · rcases Nat.lt_or_ge i j with hlt' | hge
          · refine Own.kept' (HST.out _ _ _ (Hm2.out i hi hlt') (HA1.out i hi)) hg ?_
            intro g' hg' he'
            rw [hrowb] at he'
            exact HA2.out i j hi hlt (by omega) g' hg' he'
          · obtain rfl : i = j := by omega
            rw [HV.out, HK.out]
            exact om
        · refine Own.kept' (HST.out _ _ _ (Hm3.out i hi (by omega)) (HA1.out i hi)) hg ?_
          intro g' hg' he'
          rw [hrowb] at he'
          exact HA2.out i j hi hlt (by omega) g' hg' he'
      have hext : Ext w0 w2 := HeC.out.grown hg (fun x hx => (World.ownsRow.lt od x hx).1)
      have HF := Lib.hid hfin
      clear hfin om hg od hrowb HST HC HeC Hm2 Hm3 HmA HeA
      go_wp2
      go_roundw
      case rel => exact ⟨j + 1, by omega, by go_num, by rw [HKn.out]; go_num, HF, hext⟩
      case measure => simp [intOf]; omega
    · obtain rfl : j = ps.length := by omega
      go_wp2
      go_ret
      rw [List.take_length]
      exact ⟨rfl, hm.out, he⟩
end Go.Proofs.Ytohejlknihleeaa
