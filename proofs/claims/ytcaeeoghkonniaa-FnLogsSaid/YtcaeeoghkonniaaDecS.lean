/- DecodeRecord of the reference. -/
import Derived.Test.YtcaeeoghkonniaaDec
namespace Go.Proofs.Ytcaeeoghkonniaa
open Go.RowKit Go.Sort

/-- the number of bytes, the greatest first -/
def beN (l : List UInt8) : Nat := l.foldl (fun n x => 256 * n + x.toNat) 0
theorem beN_take {l : List UInt8} {k : Nat} (h : k < l.length) : beN (l.take (k+1)) = 256 * beN (l.take k) + l[k].toNat := by
  rw [List.take_succ_eq_append_getElem h]; unfold beN; rw [List.foldl_append]; rfl
theorem beN_lt : ∀ (l : List UInt8), l.length ≤ 4 → beN l < 4294967296 := by
  intro l h
  have h8 := fun (x : UInt8) => x.toNat_lt
  match l, h with
  | [], _ => decide
  | [a], _ => have := h8 a; simp [beN]; omega
  | [a, b], _ => have := h8 a; have := h8 b; simp [beN]; omega
  | [a, b, c], _ => have := h8 a; have := h8 b; have := h8 c; simp [beN]; omega
  | [a, b, c, d], _ => have := h8 a; have := h8 b; have := h8 c; have := h8 d; simp [beN]; omega
set_option maxHeartbeats 1000000 in
theorem ReadInteger_c (A : Option Addr) (l : List UInt8) (c : Nat) (w : World) (h : Bs w A l c) (hl : l.length ≤ 4) :
    Gives Try.prog 46 #[.slice A l.length c, .bool false] w (.int .i64 (beN l : Nat)) := by
  go_enter Try.func46, Try.ntmps46
  go_wp2
  go_loopw [5, 6, 7] (fun n i _ wr => ∃ k : Nat, k ≤ l.length ∧ i = .int .i64 k ∧ n = .int .i64 (beN (l.take k) : Nat) ∧ Ext w wr) (fun _ i _ _ => l.length - (intOf i).toNat)
  case atStart => exact ⟨0, by omega, rfl, by simp [beN], Ext.refl _⟩
  case round =>
    obtain ⟨k, hk, rfl, rfl, he⟩ := hrel
    by_cases hlt : k < l.length
    · obtain ⟨b, off, rfl, hb, hc⟩ := h.at k hlt
      have hst := Lib.hid (beN_take hlt)
      have h1 := beN_lt (l.take k) (by simp; omega)
      have h3 := l[k].toNat_lt
      generalize hs : beN (l.take k) = s at *
      clear hs
      go_wp2
      go_roundw
      case rel => exact ⟨k+1, by omega, by go_num, by rw [hst.out]; go_num, he⟩
      case measure => simp [intOf]; omega
    · obtain rfl : k = l.length := by omega
      have ht : beN (l.take l.length) = beN l := by rw [List.take_of_length_le (by omega)]
      have HT := Lib.hid ht; clear ht
      go_wp2
      go_ret
      exact ⟨ret_i64 (by rw [HT.out]), he⟩

set_option maxRecDepth 100000 in
set_option maxHeartbeats 4000000 in
theorem sDecodeRecord_c (A : Option Addr) (l : List UInt8) (c : Nat) (a : Int) (w : World) (h : Bs w A l c) (ha : (Lit.int .i64 a).wf = true) :
    Calls Try.prog 31 #[.slice A l.length c, .int .i64 a] w (DecOut (dec l a) (decEnd l a) w) := by
  have hl := h.len
  have hcap := h.cap
  have ez := Ext_alloc (.cells #[.int .i64 0, .string ⟨#[]⟩, .int .i64 0, .slice none 0 0] 36) (Ext.refl w)
  have B := fun w' (e : Ext (w.alloc (.cells #[.int .i64 0, .string ⟨#[]⟩, .int .i64 0, .slice none 0 0] 36)) w') => boxed e
  have F := fun w' (e : Ext (w.alloc (.cells #[.int .i64 0, .string ⟨#[]⟩, .int .i64 0, .slice none 0 0] 36)) w') => boxed_free e
  by_cases h1 : a < 0 ∨ (l.length : Int) < a + 2
  · have hd : dec l a = none ∧ decEnd l a = a := by
      by_cases h0 : a < 0
      · exact dec_neg h0
      · obtain ⟨n, rfl⟩ := Int.eq_ofNat_of_zero_le (show 0 ≤ a by omega)
        exact dec_no (by unfold decN; rw [if_pos (by omega)])
    obtain ⟨q1, q2⟩ := hd
    have HI : Hid ((decide (0 ≤ a) && decide (a ≤ (l.length : Int) - 2)) = false) := by
      show _ = _; rw [Bool.and_eq_false_iff]; simp; omega
    rw [q1, q2]; clear q1 q2 h1
    go_enter Try.func31, Try.ntmps31
    go_wp2_with (go_at_call 26; refine (l1In_c _ _ _ _).mono ?_; rintro _ w1 ⟨rfl, he1⟩; rw [HI.out])
    obtain ⟨s0, s1, s2, s3⟩ := stored4 (B _ he1)
    refine bodyPost_ret (v := .tuple #[.agg #[.int .i64 0, .string ⟨#[]⟩, .int .i64 0, .slice none 0 0], .int .i64 a, .bool false]) (by simp [results, Try.results31, go_sem, s0, s1, s2, s3]) rfl (DecOut.no ?_)
    exact ((((ez.trans he1).setCell (Nat.le_refl _) _).setCell (Nat.le_refl _) _).setCell (Nat.le_refl _) _).setCell (Nat.le_refl _) _
  · obtain ⟨n, rfl⟩ := Int.eq_ofNat_of_zero_le (show 0 ≤ a by omega)
    have hn2 : n + 2 ≤ l.length := by omega
    have HI : Hid ((decide ((0 : Int) ≤ (n : Int)) && decide ((n : Int) ≤ (l.length : Int) - 2)) = true) := by
      show _ = _; simp; omega
    clear ha h1
    obtain ⟨b, off, rfl, hb, hcs⟩ := h.base (by omega)
    obtain ⟨nm, hnm⟩ : ∃ nm, l[n+1].toNat = nm := ⟨_, rfl⟩
    have hnm8 : nm < 256 := by rw [← hnm]; exact UInt8.toNat_lt _
    have HNM : Hid (nmAt l n = nm) := by show _ = _; unfold nmAt; rw [getD_of_lt (by omega)]; exact hnm
    have hc1 : ∀ w', Ext w w' → w'.cell? ⟨b, off + (n + 1), none⟩ = some (.int .u8 (nm : Int)) := by
      intro w' e; have := hcs w' e (n+1) (by omega); rw [this, vu8, hnm]
    clear hnm
    have keyno : ∀ w6, Ext (w.alloc (.cells #[.int .i64 0, .string ⟨#[]⟩, .int .i64 0, .slice none 0 0] 36)) w6 → decN l n = none → DecOut (dec l (n : Int)) (decEnd l (n : Int)) w (.returned (.tuple #[.agg #[.int .i64 0, .string ⟨#[]⟩, .int .i64 0, .slice none 0 0], .int .i64 n, .bool false]))
        ((((w6.setCell ⟨w.heap.size, 0, none⟩ (.int .i64 0)).setCell ⟨w.heap.size, 1, none⟩ (.string ⟨#[]⟩)).setCell ⟨w.heap.size, 2, none⟩ (.int .i64 0)).setCell ⟨w.heap.size, 3, none⟩ (.slice none 0 0)) := by
      intro w6 e6 hd
      obtain ⟨q1, q2⟩ := dec_no hd
      rw [q1, q2]
      exact DecOut.no (((((ez.trans e6).setCell (Nat.le_refl _) _).setCell (Nat.le_refl _) _).setCell (Nat.le_refl _) _).setCell (Nat.le_refl _) _)
    have KN := Lib.hid keyno; clear keyno
    by_cases h2 : l.length < n + nm + 5
    · have HD : Hid (decN l n = none) := by show _ = _; unfold decN; rw [HNM.out, if_pos (by omega)]
      clear hcs h
      go_enter Try.func31, Try.ntmps31
      go_wp2_with (go_at_call 26; refine (l1In_c _ _ _ _).mono ?_; rintro _ w1 ⟨rfl, he1⟩; rw [HI.out]; have he1' := ez.trans he1)
      obtain ⟨s0, s1, s2, s3⟩ := stored4 (B _ he1)
      exact bodyPost_ret (v := .tuple #[.agg #[.int .i64 0, .string ⟨#[]⟩, .int .i64 0, .slice none 0 0], .int .i64 n, .bool false]) (by simp [results, Try.results31, go_sem, s0, s1, s2, s3]) rfl (KN.out _ he1 HD.out)
    · obtain ⟨sz, hsz⟩ : ∃ sz, szAt l n = sz := ⟨_, rfl⟩
      have hszv : beN [l[n + nm + 3], l[n + nm + 4]] = sz := by
        rw [← hsz]; unfold szAt; rw [HNM.out, getD_of_lt (by omega), getD_of_lt (by omega)]; simp [beN]
      have hsz8 : sz < 65536 := by
        rw [← hszv]; have := (l[n+nm+3]).toNat_lt; have := (l[n+nm+4]).toNat_lt; simp [beN]; omega
      have HSZ := Lib.hid hsz; clear hsz
      have CR : Hid (∀ w' o len cap, o = off + (n + nm + 3) → len = 2 → 2 ≤ cap → Ext w w' → Gives Try.prog 46 #[.slice (some ⟨b, o, none⟩) len cap, .bool false] w' (.int .i64 (sz : Nat))) := by
        intro w' o len cap ho hlen hcap' e
        subst ho; subst hlen
        have hb2 : Bs w' (some ⟨b, off + (n + nm + 3), none⟩) [l[n + nm + 3], l[n + nm + 4]] cap := by
          refine ⟨⟨by simpa using hcap', by simp, fun _ => ⟨b, off + (n + nm + 3), rfl, Nat.lt_of_lt_of_le hb e.size, fun w2 e2 i hi => ?_⟩⟩, by simp⟩
          have hi2 : i < 2 := by simpa using hi
          rcases (by omega : i = 0 ∨ i = 1) with rfl | rfl
          · simpa using hcs w2 (e.trans e2) (n + nm + 3) (by omega)
          · have := hcs w2 (e.trans e2) (n + nm + 4) (by omega)
            rw [show off + (n + nm + 4) = off + (n + nm + 3) + 1 by omega] at this
            simpa using this
        have := ReadInteger_c _ _ cap w' hb2 (by simp)
        rw [hszv] at this
        exact this
      clear hszv
      by_cases h3 : l.length < n + nm + 6 + sz
      · have HD : Hid (decN l n = none) := by show _ = _; unfold decN; rw [HNM.out, HSZ.out, if_pos (by omega)]
        have H := Lib.hid h; have HCS := Lib.hid hcs; clear h hcs
        go_enter Try.func31, Try.ntmps31
        go_wp2_with (first
          | (go_at_call 26; refine (l1In_c _ _ _ _).mono ?_; rintro _ w1 ⟨rfl, he1⟩; rw [HI.out]; have he1' := ez.trans he1)
          | (go_at_call 46; refine (CR.out _ _ _ _ (by omega) (by omega) (by omega) he1').mono ?_; rintro _ w2 ⟨rfl, he2⟩; have he12 := he1.trans he2))
        obtain ⟨s0, s1, s2, s3⟩ := stored4 (B _ he12)
        exact bodyPost_ret (v := .tuple #[.agg #[.int .i64 0, .string ⟨#[]⟩, .int .i64 0, .slice none 0 0], .int .i64 n, .bool false]) (by simp [results, Try.results31, go_sem, s0, s1, s2, s3]) rfl (KN.out _ he12 HD.out)
      · obtain ⟨p, hp⟩ : ∃ p, (l.drop (n + nm + 5)).take sz = p := ⟨_, rfl⟩
        have hpl : p.length = sz := by rw [← hp]; simp; omega
        have rp : ∀ w' o len cap, o = off + (n + nm + 5) → len = p.length → p.length ≤ cap → Ext w w' → Bs w' (some ⟨b, o, none⟩) p cap ∧ len = p.length := by
          intro w' o len cap ho hlen hcap' e
          subst ho
          refine ⟨⟨⟨hcap', by omega, fun _ => ⟨b, off + (n + nm + 5), rfl, Nat.lt_of_lt_of_le hb e.size, fun w2 e2 i hi => ?_⟩⟩, by omega⟩, hlen⟩
          have h5 := hcs w2 (e.trans e2) (n + nm + 5 + i) (by omega)
          rw [← Nat.add_assoc] at h5
          rw [h5]
          simp only [← hp, List.getElem_take, List.getElem_drop]
        subst hpl
        have HP := Lib.hid hp; clear hp
        obtain ⟨d, hdd⟩ : ∃ d, (unpack p).getD [] = d := ⟨_, rfl⟩
        obtain ⟨ok, hok⟩ : ∃ ok, (unpack p).isSome = ok := ⟨_, rfl⟩
        have hd1 : d.length ≤ 1000 := by have := unpack_le p; rw [hdd] at this; exact this
        have HDL : Hid (d.length ≤ 140737488351232) := by show _ ≤ _; omega
        have CU : Hid (∀ w' o len cap, o = off + (n + nm + 5) → len = p.length → p.length ≤ cap → Ext w w' →
            Calls Try.prog 47 #[.slice (some ⟨b, o, none⟩) len cap] w' fun e w'' => ∃ v, e = .returned (.tuple #[v, .bool ok]) ∧ OwnL vu8 5 w' w'' v d ∧ Ext w' w'') := by
          intro w' o len cap ho hlen hcap' e
          obtain ⟨r1, r2⟩ := rp w' o len cap ho hlen hcap' e
          subst r2
          have := sUnpackBytes_c _ _ _ _ r1
          rw [hdd, hok] at this
          exact this
        clear hok rp
        obtain ⟨x0, hx0⟩ : ∃ x, l[n].toNat = x := ⟨_, rfl⟩
        obtain ⟨x2, hx2⟩ : ∃ x, l[n + nm + 2].toNat = x := ⟨_, rfl⟩
        have hx08 : x0 < 256 := by rw [← hx0]; exact UInt8.toNat_lt _
        have hx28 : x2 < 256 := by rw [← hx2]; exact UInt8.toNat_lt _
        have hc0 : ∀ w', Ext w w' → w'.cell? ⟨b, off + n, none⟩ = some (.int .u8 (x0 : Int)) := by
          intro w' e; have := hcs w' e n (by omega); rw [this, vu8, hx0]
        have hc2 : ∀ w', Ext w w' → w'.cell? ⟨b, off + (n + 2 + nm), none⟩ = some (.int .u8 (x2 : Int)) := by
          intro w' e; have := hcs w' e (n+nm+2) (by omega); rw [show off + (n + nm + 2) = off + (n + 2 + nm) by omega] at this; rw [this, vu8, hx2]
        obtain ⟨NM, hNM⟩ : ∃ NM : ByteArray, ⟨((l.drop (n + 2)).take nm).toArray⟩ = NM := ⟨_, rfl⟩
        have hcv : ∀ w' len cap, len = nm → Ext w w' → (convert 22 9 (.slice (some ⟨b, off + (n + 2), none⟩) len cap)).run Try.prog w' = .ok (.string NM) w' := by
          intro w' len cap hlen e
          subst hlen
          have := run_str (hcs w' e) (n + 2) len cap (by omega)
          rwa [hNM] at this
        have HREC : Hid (recAt l n d = ⟨x0, NM, x2, d⟩) := by
          show _ = _; unfold recAt; rw [HNM.out, getD_of_lt (by omega), getD_of_lt (by omega), hx0, hx2, hNM]
        have hNMs : NM.size ≤ 9223372036854775807 := by
          have : NM.size = nm := by rw [← hNM]; show ((l.drop (n+2)).take nm).toArray.size = _; simp; omega
          omega
        clear hx0 hx2 hNM
        obtain ⟨V, hV⟩ : ∃ V, validRec x0 NM x2 d.length = V := ⟨_, rfl⟩
        obtain ⟨E, hE⟩ : ∃ E, encRec x0 NM x2 d = E := ⟨_, rfl⟩
        obtain ⟨q, hq⟩ : ∃ q, (l.drop n).take (nm + 6 + p.length) = q := ⟨_, rfl⟩
        have hVE : V = false → E.length = 0 := by intro hf; rw [← hE, encRec_no (by rw [hV]; exact hf)]; rfl
        have hVE2 : V = true → E.length ≠ 0 := by intro hf; rw [← hE, encRec_length (by rw [hV]; exact hf)]; omega
        have HDEC : Hid (decN l n = if V && (E == q) then some ⟨x0, NM, x2, d⟩ else none) := by
          show _ = _
          rw [decN_spec (by rw [HNM.out, HSZ.out]; omega), HNM.out, HSZ.out, HP.out, hdd, HREC.out]
          have e1 : (⟨x0, NM, x2, d⟩ : DRec).ok = V := hV
          have e2 : (⟨x0, NM, x2, d⟩ : DRec).enc = E := hE
          rw [e1, e2, hq]
        clear hdd
        have hEl := encRec_le x0 NM x2 d
        rw [hE] at hEl
        have HEL : Hid (E.length ≤ 140737488351232) := by show _ ≤ _; omega
        have CN := Lib.hid (fun A4 c4 w h => sEncodeRecord_c x0 NM x2 A4 d c4 w h hNMs)
        rw [hE] at CN
        have CE : Hid (∀ A' c' w' len, len = nm + 6 + p.length → Bs w' A' E c' → Ext w w' → Gives Try.prog 32 #[.slice A' E.length c', .slice (some ⟨b, off + n, none⟩) len (c - n)] w' (.bool (E == q))) := by
          intro A' c' w' len hlen h e
          have hql : q.length = nm + 6 + p.length := by rw [← hq]; simp; omega
          have rq : Bs w' (some ⟨b, off + n, none⟩) q (c - n) := by
            refine ⟨⟨by omega, by omega, fun _ => ⟨b, off + n, rfl, Nat.lt_of_lt_of_le hb e.size, fun w2 e2 i hi => ?_⟩⟩, by omega⟩
            have h5 := hcs w2 (e.trans e2) (n + i) (by omega)
            rw [← Nat.add_assoc] at h5
            rw [h5]
            simp only [← hq, List.getElem_take, List.getElem_drop]
          have := sEqualBytes_c A' (some ⟨b, off + n, none⟩) E q c' (c - n) w' h rq
          rw [hql, ← hlen] at this
          exact this
        have H := Lib.hid h; have HCS := Lib.hid hcs; clear h hcs hV hE hq
        have HH := Lib.hid hVE; have HH2 := Lib.hid hVE2; clear hVE hVE2
        generalize (E == q) = r at *
        go_enter Try.func31, Try.ntmps31
        go_wp2_with (first
          | (go_at_call 26; refine (l1In_c _ _ _ _).mono ?_; rintro _ w1 ⟨rfl, he1⟩; rw [HI.out]; have he1' := ez.trans he1)
          | (go_at_call 46; refine (CR.out _ _ _ _ (by omega) (by omega) (by omega) he1').mono ?_; rintro _ w2 ⟨rfl, he2⟩; have he12 := he1.trans he2; have he12' := ez.trans he12)
          | (go_at_call 47; refine (CU.out _ _ _ _ (by omega) (by omega) (by omega) he12').mono ?_; rintro _ w4 ⟨v4, rfl, ho4, he4⟩; have he34 := he12.trans he4; have he34' := ez.trans he34; obtain ⟨A4, c4, hv4, hr4⟩ := OwnL.rd ho4 HDL.out; subst hv4))
        have hcv' := fun w' len cap hlen (e : Ext w4 w') => hcv w' len cap hlen (he34'.trans e)
        have hc0' := fun w' (e : Ext w4 w') => hc0 w' (he34'.trans e)
        have hc2' := fun w' (e : Ext w4 w') => hc2 w' (he34'.trans e)
        clear hcv hc0 hc2 hc1
        have g1 : (n : Int) < (l.length : Int) := by omega
        have g1' : n < l.length := by omega
        have g3 : (0 : Int) ≤ (n : Int) + 2 := by omega
        have g4 : ((n : Int) + 2).toNat = n + 2 := by omega
        have g5 : (n : Int) + 2 ≤ (n : Int) + 2 + (nm : Int) := by omega
        have g6 : (n : Int) + 2 + (nm : Int) ≤ (c : Int) := by omega
        have g6' : n + 2 + nm ≤ c := by omega
        have g6'' : ¬ c = n + 2 := by omega
        have g8 : (n : Int) + 2 + (nm : Int) < (l.length : Int) := by omega
        have g8' : n + 2 + nm < l.length := by omega
        have g9 : ((n : Int) + 2 + (nm : Int)).toNat = n + 2 + nm := by omega
        have g9' : (0 : Int) ≤ (n : Int) + 2 + (nm : Int) := by omega
        have g10 : IntKind.i64.wrap (x0 : Int) = (x0 : Int) := IntWalk.i64_in _ (by omega)
        have g11 : IntKind.i64.wrap (x2 : Int) = (x2 : Int) := IntWalk.i64_in _ (by omega)
        go_region_held3 (fun w' => Ext w4 w') (first | assumption | exact Ext_drew (Ext.refl _) | exact Ext_drew (Ext_alloc _ (Ext.refl _)) | exact Ext_alloc _ (Ext_drew (Ext.refl _)) | exact Ext.trans (by assumption) (by assumption)) (first | fail)
        have ebx := Ext_alloc (.cells #[.int .i64 x0, .string NM, .int .i64 x2, .slice A4 d.length c4] 36) (Ext.refl w4)
        generalize hw5 : (w4.alloc (.cells #[.int .i64 x0, .string NM, .int .i64 x2, .slice A4 d.length c4] 36)).drew = w5
        have e5 : Ext (w4.alloc (.cells #[.int .i64 x0, .string NM, .int .i64 x2, .slice A4 d.length c4] 36)) w5 := by rw [← hw5]; exact Ext_drew (Ext.refl _)
        clear hw5
        have D := fun w' (e : Ext w5 w') => boxed (e5.trans e)
        have e45 := ebx.trans e5
        have r5 := hr4.ext e45
        have o5 := OwnL.ext ho4 e45
        have z5 := he34.trans e45
        have hs3 : w.heap.size < w2.heap.size := by have := he12.size; simp at this; omega
        have HEE : Hid (Ext w w2) := he12'
        have EW : Hid (Ext w w5) := ez.trans z5
        have B5 := fun w' (e : Ext w5 w') => B w' (z5.trans e)
        have F5 := fun w' (e : Ext w5 w') => F w' (z5.trans e)
        have KN5 := Lib.hid (fun w6 (e : Ext w5 w6) => KN.out w6 (z5.trans e))
        clear hcv' hc0' hc2' ho4 hr4 B F KN he1 he2
        unfold vrec at CN
        cases V
        · have HD2 : Hid (decN l n = none) := HDEC.out
          have HE0 : E.length = 0 := HH.out rfl
          have HE0' := Lib.hid HE0; clear HE0 HDEC HH HH2
          go_wp2_with (first
            | (go_at_call 48; refine (CN.out _ _ _ (r5.ext (by first | exact Ext.refl _ | assumption))).mono ?_; rintro _ w7 ⟨v7, rfl, ho7, he7⟩; obtain ⟨A7, c7, hv7, r7⟩ := OwnL.rd ho7 HEL.out; rw [HE0'.out] at hv7; subst hv7))
          obtain ⟨s0, s1, s2, s3⟩ := stored4 (B5 _ he7)
          exact bodyPost_ret (v := .tuple #[.agg #[.int .i64 0, .string ⟨#[]⟩, .int .i64 0, .slice none 0 0], .int .i64 n, .bool false]) (by simp [results, Try.results31, go_sem, s0, s1, s2, s3]) rfl (KN5.out _ he7 HD2.out)
        · have HE0 : ((E.length : Int) == 0) = false := beq_eq_false_iff_ne.2 (by have := HH2.out rfl; omega)
          have HE0b : ¬ E.length = 0 := HH2.out rfl
          clear HH HH2
          cases r
          · have HD2 : Hid (decN l n = none) := HDEC.out
            clear HDEC
            go_wp2_with (first
              | (go_at_call 48; refine (CN.out _ _ _ (r5.ext (by first | exact Ext.refl _ | assumption))).mono ?_; rintro _ w7 ⟨v7, rfl, ho7, he7⟩; obtain ⟨A7, c7, hv7, r7⟩ := OwnL.rd ho7 HEL.out; subst hv7)
              | (go_at_call 32; refine (CE.out _ _ _ _ (by omega) r7 (EW.out.trans he7)).mono ?_; rintro _ w8 ⟨rfl, he8⟩; have e8 := he7.trans he8))
            obtain ⟨s0, s1, s2, s3⟩ := stored4 (B5 _ e8)
            exact bodyPost_ret (v := .tuple #[.agg #[.int .i64 0, .string ⟨#[]⟩, .int .i64 0, .slice none 0 0], .int .i64 n, .bool false]) (by simp [results, Try.results31, go_sem, s0, s1, s2, s3]) rfl (KN5.out _ e8 HD2.out)
          · have HD2 : Hid (decN l n = some ⟨x0, NM, x2, d⟩) := HDEC.out
            clear HDEC
            go_wp2_with (first
              | (go_at_call 48; refine (CN.out _ _ _ (r5.ext (by first | exact Ext.refl _ | assumption))).mono ?_; rintro _ w7 ⟨v7, rfl, ho7, he7⟩; obtain ⟨A7, c7, hv7, r7⟩ := OwnL.rd ho7 HEL.out; subst hv7)
              | (go_at_call 32; refine (CE.out _ _ _ _ (by omega) r7 (EW.out.trans he7)).mono ?_; rintro _ w8 ⟨rfl, he8⟩; have e8 := he7.trans he8))
            obtain ⟨s0, s1, s2, s3⟩ := stored4 (B5 _ e8)
            refine bodyPost_ret (v := .tuple #[.agg #[.int .i64 x0, .string NM, .int .i64 x2, .slice A4 d.length c4], .int .i64 ((n : Int) + 2 + (nm : Int) + 3 + (p.length : Int) + 1), .bool true]) (by simp [results, Try.results31, go_sem, s0, s1, s2, s3]) rfl ?_
            obtain ⟨q1, q2⟩ := dec_yes HD2.out
            rw [q1, q2, HNM.out, HSZ.out]
            refine ⟨.slice A4 d.length c4, ?_, ?_, ?_⟩
            · rw [show ((n + nm + 6 + p.length : Nat) : Int) = (n : Int) + 2 + (nm : Int) + 3 + (p.length : Int) + 1 by omega]
              rfl
            · exact OwnL.lower (ownsRow_setCell_below (ownsRow_setCell_below (ownsRow_setCell_below (ownsRow_setCell_below (OwnL.ext o5 e8) hs3 _) hs3 _) hs3 _) hs3 _) HEE.out
            · exact ((((EW.out.trans e8).setCell (Nat.le_refl _) _).setCell (Nat.le_refl _) _).setCell (Nat.le_refl _) _).setCell (Nat.le_refl _) _
end Go.Proofs.Ytcaeeoghkonniaa
