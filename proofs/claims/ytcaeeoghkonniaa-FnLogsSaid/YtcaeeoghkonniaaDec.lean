/- DecodeRecord of the program and of the reference. -/
import Derived.Test.YtcaeeoghkonniaaEncRec
import Derived.Test.YtcaeeoghkonniaaUnpack
import Derived.Test.YtcaeeoghkonniaaLawUnpack
import Derived.Test.YtcaeeoghkonniaaEqual
import Derived.Laws.CopyOwn
import Derived.Laws.BytesArg
import Derived.Laws.BitsAllLaws
import Derived.Deep.RegionHeld3
import Derived.StillTailTactics
namespace Go.Proofs.Ytcaeeoghkonniaa
open Go.RowKit Go.Sort

/-- what a call of DecodeRecord hands back -/
def DecOut (r : Option DRec) (j : Int) (w : World) (e : Ending) (w' : World) : Prop :=
  ∃ v, e = .returned (.tuple #[vrec (r.getD .zero).k (r.getD .zero).nm (r.getD .zero).ver v, .int .i64 j, .bool r.isSome]) ∧ OwnL vu8 5 w w' v (r.getD .zero).l ∧ Ext w w'
theorem DecOut.no {j : Int} {w w' : World} (he : Ext w w') : DecOut none j w (.returned (.tuple #[.agg #[.int .i64 0, .string ⟨#[]⟩, .int .i64 0, .slice none 0 0], .int .i64 j, .bool false])) w' := ⟨_, rfl, OwnL.nil _ _, he⟩

theorem dec_neg {b : List UInt8} {a : Int} (h : a < 0) : dec b a = none ∧ decEnd b a = a := by
  have h1 : dec b a = none := by unfold dec; rw [if_pos h]
  exact ⟨h1, by unfold decEnd; rw [h1]; rfl⟩
theorem dec_nat (b : List UInt8) (n : Nat) : dec b (n : Int) = decN b n := by
  unfold dec; rw [if_neg (by omega)]; rfl
theorem dec_no {b : List UInt8} {n : Nat} (h : decN b n = none) : dec b (n : Int) = none ∧ decEnd b (n : Int) = n := by
  have h1 : dec b (n : Int) = none := by rw [dec_nat]; exact h
  exact ⟨h1, by unfold decEnd; rw [h1]; rfl⟩
theorem dec_yes {b : List UInt8} {n : Nat} {r : DRec} (h : decN b n = some r) : dec b (n : Int) = some r ∧ decEnd b (n : Int) = ((n + nmAt b n + 6 + szAt b n : Nat) : Int) := by
  have h1 : dec b (n : Int) = some r := by rw [dec_nat]; exact h
  refine ⟨h1, ?_⟩
  unfold decEnd
  rw [h1, Int.toNat_natCast]
  simp
theorem getD_of_lt {l : List UInt8} {i : Nat} (h : i < l.length) : l.getD i 0 = l[i] := by simp [h]

section
variable {P : Program} {ops : Array Oper} {rest : List Oper} {o : Oper} {a : Act} {Q : Exit → Act → World → Prop}
/-- copy onto the whole of a row of the call's own -/
theorem wpList_copyL (hgd : o.guard = none) (d s : Operand) (dT sT : TypeId) (ho : o.op = .call { callee := .builtin .copy, args := #[d, s], argTypes := #[dT, sT] })
    {e : TypeId} {bytes : Nat} {z : Value} (hE : Elem P dT e 1 bytes z) {α : Type} (f : α → Value) (hf : ∀ x, (f x).oneCell' = true) (w0 w : World) (A : Option Addr) (n c : Nat) (hd : a.eval d = .slice A n c)
    (xs : List Value) (hown : Own e 1 w0 w (.slice A n c) n xs) (he : Ext w0 w) (sp : Option Addr) (sLen sCap : Nat) (hs : a.eval s = .slice sp sLen sCap)
    (ys : List α) (hy : ys.length = n) (hn : n ≤ sLen) (hA : 0 < ys.length → ∃ ad, sp = some ad ∧ ∀ j u, (ys.map f)[j]? = some u → w.cell? (ad.add j) = some u)
    (h : ∀ w', OwnL f e w0 w' (.slice A n c) ys → Ext w0 w' → wpList P ops Q rest (a.put o.dst (goInt n)) w') :
    wpList P ops Q (o :: rest) a w := by
  obtain ⟨i0, hi0, hz0, hz1, hz2⟩ := info_parts hE.hi
  have hsz : (P.info? e).map (·.size) = some 1 := by rw [hi0]; simp [hz1]
  rcases hown.2 with ⟨hv, rfl⟩ | ⟨g, cap, cur, hv, hb, hg, hnc, hcm, hcs, htake⟩
  · obtain rfl : ys = [] := List.eq_nil_of_length_eq_zero hy
    refine wpList_copy_nothing hgd d s dT sT ho e hE.ht hsz A sp 0 c sLen sCap hd hs (by simp) ?_
    exact h w (by rw [hv]; exact OwnL.nil _ _) he
  · injection hv with h1 _ h3
    subst h1; subst h3
    have hlen : (ys.map f).length = n := by simpa using hy
    refine wpList_copy_splice hgd d s dT sT ho e hE.ht hsz (some ⟨g, 0, none⟩) sp n c sLen sCap hd hs g 0 cur.toList e hg (ys.map f) (by rw [hlen]; exact (Nat.min_eq_right hn).symm)
      (fun hp => ⟨rfl, hA (by simpa using hp)⟩) (by simp; omega) (fun u hu => by obtain ⟨x, _, rfl⟩ := List.mem_map.1 hu; exact hf x) w0.heap.size w0 he hb ?_
    intro w' hg' hb'
    have hl' : (ys.map f).length = n * 1 := by rw [hlen]; omega
    have hnn : (goInt (ys.map f).length) = goInt n := by rw [hlen]
    rw [hnn]
    refine h w' ?_ hb'
    have hg'' := hg'.out
    unfold OwnL
    rw [hy]
    refine ⟨hl', .inr ⟨g, c, _, rfl, hb, hg'', hnc, hcm, ?_, ?_⟩⟩
    · rw [← hcs]
      have := length_splice cur.toList 0 (ys.map f) (by rw [hlen]; simp; omega)
      simpa using this
    · unfold splice
      rw [List.take_zero, List.nil_append, List.take_append_of_le_length (by omega), List.take_of_length_le (by omega)]
end
/-- a block of four cells, written one by one -/
theorem stored4 {w1 : World} {g : Nat} {x0 x1 x2 x3 : Value} (h : ∀ i, w1.cell? ⟨g, i, none⟩ = #[x0, x1, x2, x3][i]?) :
    (∀ y0, (w1.setCell ⟨g, 0, none⟩ y0).cell? ⟨g, 0, none⟩ = some y0) ∧ (∀ y0 y1, ((w1.setCell ⟨g, 0, none⟩ y0).setCell ⟨g, 1, none⟩ y1).cell? ⟨g, 1, none⟩ = some y1) ∧
    (∀ y0 y1 y2, (((w1.setCell ⟨g, 0, none⟩ y0).setCell ⟨g, 1, none⟩ y1).setCell ⟨g, 2, none⟩ y2).cell? ⟨g, 2, none⟩ = some y2) ∧
    (∀ y0 y1 y2 y3, ((((w1.setCell ⟨g, 0, none⟩ y0).setCell ⟨g, 1, none⟩ y1).setCell ⟨g, 2, none⟩ y2).setCell ⟨g, 3, none⟩ y3).cell? ⟨g, 3, none⟩ = some y3) := by
  have h0 := h 0; have h1 := h 1; have h2 := h 2; have h3 := h 3
  simp at h0 h1 h2 h3
  refine ⟨fun y0 => ?_, fun y0 y1 => ?_, fun y0 y1 y2 => ?_, fun y0 y1 y2 y3 => ?_⟩
  · apply World.cell?_setCell_same; exact h0
  · apply World.cell?_setCell_same (u := x1); simp [World.cell?_setCell_other, h1]
  · apply World.cell?_setCell_same (u := x2); simp [World.cell?_setCell_other, h2]
  · apply World.cell?_setCell_same (u := x3); simp [World.cell?_setCell_other, h3]
theorem strOfNums_bytes (p : List UInt8) : strOfNums (p.map fun x => (x.toNat : Int)) = ⟨p.toArray⟩ := by
  unfold strOfNums
  have : (p.map fun x => (x.toNat : Int)).map (fun n => UInt8.ofNat n.toNat) = p := by
    rw [List.map_map]
    conv => rhs; rw [← List.map_id p]
    apply List.map_congr_left
    intro x _
    simp
  rw [this]
/-- two bytes joined -/
theorem or_join {x y : Nat} (hx : x < 256) (hy : y < 256) : bits .or .i64 ((x : Int) * 256) (y : Int) = ((256 * x + y : Nat) : Int) := by
  rw [show (x : Int) * 256 = ((x * 256 : Nat) : Int) by omega]
  show IntKind.i64.wrap ((BitVec.ofInt 64 ((x * 256 : Nat) : Int) ||| BitVec.ofInt 64 (y : Int)).toNat : Int) = _
  rw [BitVec.toNat_or, ofInt_u64 _ (by omega), ofInt_u64 _ (by omega), nat_join8 _ _ (by omega) hy, IntKind.wrap_i64]
  omega
/-- string(b[i:i+n]) of a row that reads as l -/
theorem run_str {w : World} {b off : Nat} {l : List UInt8} (h : ∀ i (h : i < l.length), w.cell? ⟨b, off + i, none⟩ = some (vu8 l[i])) (lo n cap : Nat) (hn : lo + n ≤ l.length) :
    (convert 22 9 (.slice (some ⟨b, off + lo, none⟩) n cap)).run Try.prog w = .ok (.string ⟨((l.drop lo).take n).toArray⟩) w := by
  have hw : ((l.drop lo).take n).length = n := by simp; omega
  have h1 := run_convert_bytes_arg (P := Try.prog) w 22 5 Try.underlying22 Try.underlying5 b (off + lo) n cap (((l.drop lo).take n).map fun x => (x.toNat : Int)) (by rw [List.length_map]; exact hw) (fun i hi => by
    rw [Nat.add_assoc, h (lo + i) (by omega)]
    have e1 : ((l.drop lo).take n)[i]? = some l[lo + i] := by
      rw [List.getElem?_take_of_lt hi, List.getElem?_drop, List.getElem?_eq_getElem (by omega)]
    simp only [List.getD, List.getElem?_map, e1, Option.map_some, Option.getD_some, vu8]) 9 Try.underlying9
  rw [h1, strOfNums_bytes]

set_option maxRecDepth 100000 in
set_option maxHeartbeats 4000000 in
theorem iDecodeRecord_c (A : Option Addr) (l : List UInt8) (c : Nat) (a : Int) (w : World) (h : Bs w A l c) (ha : (Lit.int .i64 a).wf = true) :
    Calls Try.prog 30 #[.slice A l.length c, .int .i64 a] w (DecOut (dec l a) (decEnd l a) w) := by
  have hl := h.len
  have hcap := h.cap
  have ez := Ext_alloc (.cells #[.int .i64 0, .string ⟨#[]⟩, .int .i64 0, .slice none 0 0] 36) (Ext.refl w)
  by_cases h0 : a < 0
  · obtain ⟨q1, q2⟩ := dec_neg (b := l) h0
    rw [q1, q2]; clear q1 q2
    go_enter Try.func30, Try.ntmps30
    go_wp2
    refine bodyPost_ret (v := .tuple #[.agg #[.int .i64 0, .string ⟨#[]⟩, .int .i64 0, .slice none 0 0], .int .i64 a, .bool false]) (by simp [results, Try.results30, go_sem]) rfl (DecOut.no ez)
  · obtain ⟨n, rfl⟩ := Int.eq_ofNat_of_zero_le (show 0 ≤ a by omega)
    clear h0 ha
    by_cases h1 : l.length < n + 2
    · have hd : decN l n = none := by unfold decN; rw [if_pos (by omega)]
      obtain ⟨q1, q2⟩ := dec_no hd
      rw [q1, q2]; clear q1 q2 hd
      by_cases h2 : l.length < n
      all_goals
        go_enter Try.func30, Try.ntmps30
        go_wp2
        refine bodyPost_ret (v := .tuple #[.agg #[.int .i64 0, .string ⟨#[]⟩, .int .i64 0, .slice none 0 0], .int .i64 n, .bool false]) (by simp [results, Try.results30, go_sem]) rfl (DecOut.no ez)
    · obtain ⟨b, off, rfl, hb, hcs⟩ := h.base (by omega)
      obtain ⟨nm, hnm⟩ : ∃ nm, l[n+1].toNat = nm := ⟨_, rfl⟩
      have hnm8 : nm < 256 := by rw [← hnm]; exact UInt8.toNat_lt _
      have HNM : Hid (nmAt l n = nm) := by show _ = _; unfold nmAt; rw [getD_of_lt (by omega)]; exact hnm
      have hc1 : ∀ w', Ext w w' → w'.cell? ⟨b, off + n + 1, none⟩ = some (.int .u8 (nm : Int)) := by
        intro w' e; have := hcs w' e (n+1) (by omega); rw [← Nat.add_assoc] at this; rw [this, vu8, hnm]
      clear hnm
      by_cases h2 : l.length < n + nm + 6
      · have hd : decN l n = none := by unfold decN; rw [HNM.out, if_pos (by omega)]
        obtain ⟨q1, q2⟩ := dec_no hd
        rw [q1, q2]; clear q1 q2 hd hcs h
        go_enter Try.func30, Try.ntmps30
        go_wp2
        refine bodyPost_ret (v := .tuple #[.agg #[.int .i64 0, .string ⟨#[]⟩, .int .i64 0, .slice none 0 0], .int .i64 n, .bool false]) (by simp [results, Try.results30, go_sem]) rfl (DecOut.no ez)
      · obtain ⟨x3, hx3⟩ : ∃ x, l[n + nm + 3].toNat = x := ⟨_, rfl⟩
        obtain ⟨x4, hx4⟩ : ∃ x, l[n + nm + 4].toNat = x := ⟨_, rfl⟩
        have hx38 : x3 < 256 := by rw [← hx3]; exact UInt8.toNat_lt _
        have hx48 : x4 < 256 := by rw [← hx4]; exact UInt8.toNat_lt _
        have HSZ : Hid (szAt l n = 256 * x3 + x4) := by show _ = _; unfold szAt; rw [HNM.out, getD_of_lt (by omega), getD_of_lt (by omega), hx3, hx4]
        have hc3 : ∀ w', Ext w w' → w'.cell? ⟨b, off + n + (nm + 3), none⟩ = some (.int .u8 (x3 : Int)) := by
          intro w' e; have := hcs w' e (n+nm+3) (by omega); rw [show off + (n + nm + 3) = off + n + (nm + 3) by omega] at this; rw [this, vu8, hx3]
        have hc4 : ∀ w', Ext w w' → w'.cell? ⟨b, off + n + (nm + 4), none⟩ = some (.int .u8 (x4 : Int)) := by
          intro w' e; have := hcs w' e (n+nm+4) (by omega); rw [show off + (n + nm + 4) = off + n + (nm + 4) by omega] at this; rw [this, vu8, hx4]
        clear hx3 hx4
        have hor := or_join hx38 hx48
        obtain ⟨sz, hsz⟩ : ∃ sz, 256 * x3 + x4 = sz := ⟨_, rfl⟩
        have hsz8 : sz < 65536 := by omega
        rw [hsz] at hor HSZ
        clear hsz
        have B := fun w' (e : Ext (w.alloc (.cells #[.int .i64 0, .string ⟨#[]⟩, .int .i64 0, .slice none 0 0] 36)) w') => boxed e
        have F := fun w' (e : Ext (w.alloc (.cells #[.int .i64 0, .string ⟨#[]⟩, .int .i64 0, .slice none 0 0] 36)) w') => boxed_free e
        by_cases h3 : l.length < n + nm + 6 + sz
        · have hd : decN l n = none := by unfold decN; rw [HNM.out, HSZ.out, if_pos (by omega)]
          obtain ⟨q1, q2⟩ := dec_no hd
          rw [q1, q2]; clear q1 q2 hd hcs h
          go_enter Try.func30, Try.ntmps30
          go_wp2
          refine wp_region_quiet_below (by kernel_rfl) (by kernel_rfl) ?_
          repeat (go_big_quiet_step (fail))
          refine wpQuiet_nil ?_
          rintro w1 ⟨⟨nq, osq⟩, hq⟩
          have ew1 := ext_of_q hq
          clear hq nq osq
          go_wp2
          obtain ⟨s0, s1, s2, s3⟩ := stored4 (B _ ew1)
          refine bodyPost_ret (v := .tuple #[.agg #[.int .i64 0, .string ⟨#[]⟩, .int .i64 0, .slice none 0 0], .int .i64 n, .bool false]) (by simp [results, Try.results30, go_sem, s0, s1, s2, s3]) rfl (DecOut.no ?_)
          exact ((((ez.trans ew1).setCell (Nat.le_refl _) _).setCell (Nat.le_refl _) _).setCell (Nat.le_refl _) _).setCell (Nat.le_refl _) _
        · obtain ⟨p, hp⟩ : ∃ p, (l.drop (n + nm + 5)).take sz = p := ⟨_, rfl⟩
          have hpl : p.length = sz := by rw [← hp]; simp; omega
          subst hpl
          have HP := Lib.hid hp; clear hp
          have HPC : Hid (∀ w', Ext w w' → ∀ j u, (p.map vu8)[j]? = some u → w'.cell? ((⟨b, off + n + (nm + 5), none⟩ : Addr).add j) = some u) := by
            intro w' e j u hu
            rw [← HP.out] at hu
            have := part_cells (hcs w' e) (n + nm + 5) p.length j u hu
            rwa [show off + (n + nm + 5) = off + n + (nm + 5) by omega] at this
          have HPL : Hid (p.length ≤ 140737488351232) := by show _ ≤ _; omega
          have H := Lib.hid h; have HCS := Lib.hid hcs; clear h hcs
          obtain ⟨d, hdd⟩ : ∃ d, (unpack p).getD [] = d := ⟨_, rfl⟩
          obtain ⟨ok, hok⟩ : ∃ ok, (unpack p).isSome = ok := ⟨_, rfl⟩
          have hd1 : d.length ≤ 1000 := by have := unpack_le p; rw [hdd] at this; exact this
          have HDL : Hid (d.length ≤ 140737488351232) := by show _ ≤ _; omega
          obtain ⟨x0, hx0⟩ : ∃ x, l[n].toNat = x := ⟨_, rfl⟩
          obtain ⟨x2, hx2⟩ : ∃ x, l[n + nm + 2].toNat = x := ⟨_, rfl⟩
          have hx08 : x0 < 256 := by rw [← hx0]; exact UInt8.toNat_lt _
          have hx28 : x2 < 256 := by rw [← hx2]; exact UInt8.toNat_lt _
          have hc0 : ∀ w', Ext w w' → w'.cell? ⟨b, off + n, none⟩ = some (.int .u8 (x0 : Int)) := by
            intro w' e; have := HCS.out w' e n (by omega); rw [this, vu8, hx0]
          have hc2 : ∀ w', Ext w w' → w'.cell? ⟨b, off + n + (nm + 2), none⟩ = some (.int .u8 (x2 : Int)) := by
            intro w' e; have := HCS.out w' e (n+nm+2) (by omega); rw [show off + (n + nm + 2) = off + n + (nm + 2) by omega] at this; rw [this, vu8, hx2]
          obtain ⟨NM, hNM⟩ : ∃ NM : ByteArray, ⟨((l.drop (n + 2)).take nm).toArray⟩ = NM := ⟨_, rfl⟩
          have hcv : ∀ w' cap, Ext w w' → (convert 22 9 (.slice (some ⟨b, off + n + 2, none⟩) nm cap)).run Try.prog w' = .ok (.string NM) w' := by
            intro w' cap e
            have := run_str (HCS.out w' e) (n + 2) nm cap (by omega)
            rwa [← Nat.add_assoc, hNM] at this
          have HREC : Hid (recAt l n d = ⟨x0, NM, x2, d⟩) := by
            show _ = _; unfold recAt; rw [HNM.out, getD_of_lt (by omega), getD_of_lt (by omega), hx0, hx2, hNM]
          have hNMs : NM.size ≤ 9223372036854775807 := by
            have : NM.size = nm := by rw [← hNM]; show ((l.drop (n+2)).take nm).toArray.size = _; simp; omega
            omega
          clear hx0 hx2 hNM
          have CU := Lib.hid (fun A c w h => iUnpackBytes_c A p c w h)
          rw [hdd, hok] at CU
          have HDEC0 : ok = false → decN l n = none := by
            intro hf
            have : unpack p = none := by
              cases hu : unpack p with
              | none => rfl
              | some x => rw [hu] at hok; rw [hf] at hok; cases hok
            unfold decN
            rw [HNM.out, HSZ.out, if_neg (by omega), HP.out, this]
          have HDEC1 : ok = true → decN l n = if validRec x0 NM x2 d.length && (encRec x0 NM x2 d == (l.drop n).take (nm + 6 + p.length)) then some ⟨x0, NM, x2, d⟩ else none := by
            intro ht
            have : unpack p = some d := by
              cases hu : unpack p with
              | none => rw [hu] at hok; rw [ht] at hok; cases hok
              | some x => rw [hu] at hdd; rw [← hdd]; rfl
            unfold decN
            rw [HNM.out, HSZ.out, if_neg (by omega), HP.out, this]
            simp only [HREC.out, DRec.ok, DRec.enc]
          have HDEC0 := Lib.hid HDEC0; have HDEC1 := Lib.hid HDEC1
          clear hok hdd
          go_enter Try.func30, Try.ntmps30
          go_wp2
          refine wp_region_quiet_below (by kernel_rfl) (by kernel_rfl) ?_
          repeat (go_big_quiet_step (fail))
          refine wpQuiet_nil ?_
          rintro w1 ⟨⟨nq, osq⟩, hq⟩
          have ew1 := ext_of_q hq
          clear hq nq osq
          have e1 := ew1
          have e1' := ez.trans e1
          go_wp2_with (first
            | (at_make; refine wpList_mk rfl _ _ _ rfl E_u8 _ _ e1 p.length rfl rfl (by omega) (by simp [maxLen]; omega) ?_; intro w2 ho2 he2 _; have he2' := ez.trans he2)
            | (refine wpList_copyL rfl (.tmp 70) (.tmp 74) _ _ rfl E_u8 vu8 (fun _ => rfl) _ _ _ p.length _ rfl _ ho2 he2 _ _ _ rfl p rfl (by omega) (fun _ => ⟨_, rfl, HPC.out _ he2'⟩) ?_; intro w3 ho3 he3; have he3' := ez.trans he3; obtain ⟨A3, c3, hv3, hr3⟩ := ho3.rd HPL.out; injection hv3 with q1 _ q2; subst q1; subst q2)
            | (go_at_call 45; refine (CU.out _ _ _ hr3).mono ?_; rintro _ w4 ⟨v4, rfl, ho4, he4⟩; have he34 := he3.trans he4; have he34' := ez.trans he34; obtain ⟨A4, c4, hv4, hr4⟩ := OwnL.rd ho4 HDL.out; subst hv4))
          have hcv' := fun w' cap (e : Ext w4 w') => hcv w' cap (he34'.trans e)
          have hc0' := fun w' (e : Ext w4 w') => hc0 w' (he34'.trans e)
          have hc2' := fun w' (e : Ext w4 w') => hc2 w' (he34'.trans e)
          clear hcv hc0 hc2 hc1 hc3 hc4
          have g1 : (0 : Int) < ((l.length - n : Nat) : Int) := by omega
          have g1' : 0 < l.length - n := by omega
          have g2 : IntKind.i64.wrap (2 + (nm : Int)) = 2 + (nm : Int) := IntWalk.i64_in _ (by omega)
          have g3 : (0 : Int) ≤ 2 + (nm : Int) := by omega
          have g4 : (2 + (nm : Int)).toNat = 2 + nm := by omega
          have g5 : (2 : Int) ≤ 2 + (nm : Int) := by omega
          have g6 : 2 + (nm : Int) ≤ ((c - n : Nat) : Int) := by omega
          have g6' : 2 + nm ≤ c - n := by omega
          have g6'' : ¬ c - n = 2 := by omega
          have g7 : IntKind.i64.wrap ((nm : Int) + 2) = (nm : Int) + 2 := IntWalk.i64_in _ (by omega)
          have g8 : (nm : Int) + 2 < ((l.length - n : Nat) : Int) := by omega
          have g8' : nm + 2 < l.length - n := by omega
          have g9 : ((nm : Int) + 2).toNat = nm + 2 := by omega
          have g9' : (0 : Int) ≤ (nm : Int) + 2 := by omega
          have g10 : IntKind.i64.wrap (x0 : Int) = (x0 : Int) := IntWalk.i64_in _ (by omega)
          have g11 : IntKind.i64.wrap (x2 : Int) = (x2 : Int) := IntWalk.i64_in _ (by omega)
          go_region_held3 (fun w' => Ext w4 w') (first | assumption | exact Ext_drew (Ext.refl _) | exact Ext_drew (Ext_alloc _ (Ext.refl _)) | exact Ext_alloc _ (Ext_drew (Ext.refl _)) | exact Ext.trans (by assumption) (by assumption)) (first | fail)
          have ebx := Ext_alloc (.cells #[.int .i64 x0, .string NM, .int .i64 x2, .slice A4 d.length c4] 36) (Ext.refl w4)
          generalize hw5 : (w4.alloc (.cells #[.int .i64 x0, .string NM, .int .i64 x2, .slice A4 d.length c4] 36)).drew = w5
          have e5 : Ext (w4.alloc (.cells #[.int .i64 x0, .string NM, .int .i64 x2, .slice A4 d.length c4] 36)) w5 := by rw [← hw5]; exact Ext_drew (Ext.refl _)
          clear hw5
          have D := fun w' (e : Ext w5 w') => boxed (e5.trans e)
          have e45 := ebx.trans e5
          have r5 := hr4.ext e45
          have o5 := OwnL.ext ho4 e45
          have z5 := he34.trans e45
          have hs3 : w.heap.size < w3.heap.size := by have := he3.size; simp at this; omega
          have HEE : Hid (Ext w w3) := he3'
          have B5 := fun w' (e : Ext w5 w') => B w' (z5.trans e)
          have F5 := fun w' (e : Ext w5 w') => F w' (z5.trans e)
          clear hcv' hc0' hc2' ho3 hr3 he2 he2' ho2 e1 e1' ew1 he3 ho4 hr4 B F
          have keyno : ∀ w6, Ext w5 w6 → decN l n = none → DecOut (dec l (n : Int)) (decEnd l (n : Int)) w (.returned (.tuple #[.agg #[.int .i64 0, .string ⟨#[]⟩, .int .i64 0, .slice none 0 0], .int .i64 n, .bool false]))
              ((((w6.setCell ⟨w.heap.size, 0, none⟩ (.int .i64 0)).setCell ⟨w.heap.size, 1, none⟩ (.string ⟨#[]⟩)).setCell ⟨w.heap.size, 2, none⟩ (.int .i64 0)).setCell ⟨w.heap.size, 3, none⟩ (.slice none 0 0)) := by
            intro w6 e6 hd
            obtain ⟨q1, q2⟩ := dec_no hd
            rw [q1, q2]
            exact DecOut.no (((((ez.trans (z5.trans e6)).setCell (Nat.le_refl _) _).setCell (Nat.le_refl _) _).setCell (Nat.le_refl _) _).setCell (Nat.le_refl _) _)
          have KN := Lib.hid keyno; clear keyno
          cases ok
          · have HD0 : Hid (decN l n = none) := HDEC0.out rfl
            clear HDEC0 HDEC1
            go_wp2_with fail
            refine wp_region_quiet_below (by kernel_rfl) (by kernel_rfl) ?_
            repeat (go_big_quiet_step (fail))
            refine wpQuiet_nil ?_
            rintro w6 ⟨⟨nq, osq⟩, hq⟩
            have ew6 := ext_of_q hq
            clear hq nq osq
            go_wp2
            obtain ⟨s0, s1, s2, s3⟩ := stored4 (B5 _ ew6)
            exact bodyPost_ret (v := .tuple #[.agg #[.int .i64 0, .string ⟨#[]⟩, .int .i64 0, .slice none 0 0], .int .i64 n, .bool false]) (by simp [results, Try.results30, go_sem, s0, s1, s2, s3]) rfl (KN.out _ ew6 HD0.out)
          · have C1 := Lib.hid (fun w => iIsValidRecord_c x0 NM x2 A4 d c4 w HDL.out hNMs)
            have HD1 := Lib.hid (HDEC1.out rfl)
            clear HDEC0 HDEC1
            cases hV : validRec x0 NM x2 d.length
            · rw [hV] at C1 HD1
              have HD2 : Hid (decN l n = none) := HD1.out
              unfold vrec at C1
              clear HD1
              go_wp2_with fail
              refine wp_region_quiet_below (by kernel_rfl) (by kernel_rfl) ?_
              repeat (go_big_quiet_step ((go_at_call 34; exact Calls.regrown_of (C1.out _))))
              refine wpQuiet_nil ?_
              rintro w6 ⟨⟨nq, osq⟩, hq⟩
              have ew6 := ext_of_q hq
              clear hq nq osq
              have e6 := ew6
              go_wp2
              obtain ⟨s0, s1, s2, s3⟩ := stored4 (B5 _ e6)
              exact bodyPost_ret (v := .tuple #[.agg #[.int .i64 0, .string ⟨#[]⟩, .int .i64 0, .slice none 0 0], .int .i64 n, .bool false]) (by simp [results, Try.results30, go_sem, s0, s1, s2, s3]) rfl (KN.out _ e6 HD2.out)
            · rw [hV] at C1 HD1
              have C2 := Lib.hid (fun w h => iEncodeRecord_c x0 NM x2 A4 d c4 w h hNMs)
              have hEl := encRec_le x0 NM x2 d
              obtain ⟨E, hE⟩ : ∃ E, encRec x0 NM x2 d = E := ⟨_, rfl⟩
              rw [hE] at HD1 C2 hEl
              have HEL : Hid (E.length ≤ 140737488351232) := by show _ ≤ _; omega
              obtain ⟨q, hq⟩ : ∃ q, (l.drop n).take (nm + 6 + p.length) = q := ⟨_, rfl⟩
              have hql : q.length = nm + 6 + p.length := by rw [← hq]; simp; omega
              have rq : ∀ w', Ext w w' → Bs w' (some ⟨b, off + n, none⟩) q (c - n) := by
                intro w' e
                refine ⟨⟨by omega, by omega, fun _ => ⟨b, off + n, rfl, Nat.lt_of_lt_of_le hb e.size, fun w2 e2 i hi => ?_⟩⟩, by omega⟩
                have h5 := HCS.out w2 (e.trans e2) (n + i) (by omega)
                rw [← Nat.add_assoc] at h5
                rw [h5]
                simp only [← hq, List.getElem_take, List.getElem_drop]
              rw [hq] at HD1
              have CE := Lib.hid (fun A' c' w' (h : Bs w' A' E c') (e : Ext w w') => iEqualBytes_c A' (some ⟨b, off + n, none⟩) E q c' (c - n) w' h (rq w' e))
              rw [hql] at CE
              obtain ⟨r, hr⟩ : ∃ r, (E == q) = r := ⟨_, rfl⟩
              rw [hr] at CE HD1
              clear rq hq hE hql hr
              have k1 : IntKind.i64.wrap ((nm : Int) + 6) = (nm : Int) + 6 := IntWalk.i64_in _ (by omega)
              have k2 : IntKind.i64.wrap ((nm : Int) + 6 + (p.length : Int)) = (nm : Int) + 6 + (p.length : Int) := IntWalk.i64_in _ (by omega)
              have k3 : (0 : Int) ≤ (nm : Int) + 6 + (p.length : Int) := by omega
              have k4 : ((nm : Int) + 6 + (p.length : Int)).toNat = nm + 6 + p.length := by omega
              have k5 : (nm : Int) + 6 + (p.length : Int) ≤ ((c - n : Nat) : Int) := by omega
              have k5' : nm + 6 + p.length ≤ c - n := by omega
              have EW : Hid (Ext w w5) := ez.trans z5
              unfold vrec at C1 C2
              go_wp2_with fail
              go_region_held3 (fun w' => Ext w5 w') (first | assumption | exact Ext_drew (Ext.refl _) | exact Ext.trans (by assumption) (by assumption)) (first
                | (go_at_call 34; refine (C1.out _).mono ?_; rintro _ w6 ⟨rfl, he6⟩)
                | (go_at_call 35; refine (C2.out _ (r5.ext (by assumption))).mono ?_; rintro _ w7 ⟨v7, rfl, ho7, he7⟩; obtain ⟨A7, c7, rfl, r7⟩ := OwnL.rd ho7 HEL.out)
                | (go_at_call 27; refine (CE.out _ _ _ r7 (EW.out.trans (by assumption))).mono ?_; rintro _ w8 ⟨rfl, he8⟩))
              have e8 : Ext w5 w8 := by assumption
              clear he8 he7 r7 ho7 he6
              cases r
              · have HD2 : Hid (decN l n = none) := HD1.out
                go_wp2
                obtain ⟨s0, s1, s2, s3⟩ := stored4 (B5 _ e8)
                exact bodyPost_ret (v := .tuple #[.agg #[.int .i64 0, .string ⟨#[]⟩, .int .i64 0, .slice none 0 0], .int .i64 n, .bool false]) (by simp [results, Try.results30, go_sem, s0, s1, s2, s3]) rfl (KN.out _ e8 HD2.out)
              · have HD2 : Hid (decN l n = some ⟨x0, NM, x2, d⟩) := HD1.out
                clear HD1
                go_wp2
                obtain ⟨s0, s1, s2, s3⟩ := stored4 (B5 _ e8)
                refine bodyPost_ret (v := .tuple #[.agg #[.int .i64 x0, .string NM, .int .i64 x2, .slice A4 d.length c4], .int .i64 ((n : Int) + (nm : Int) + 6 + (p.length : Int)), .bool true]) (by simp [results, Try.results30, go_sem, s0, s1, s2, s3]) rfl ?_
                obtain ⟨q1, q2⟩ := dec_yes HD2.out
                rw [q1, q2, HNM.out, HSZ.out]
                refine ⟨.slice A4 d.length c4, ?_, ?_, ?_⟩
                · rw [show ((n + nm + 6 + p.length : Nat) : Int) = (n : Int) + (nm : Int) + 6 + (p.length : Int) by omega]
                  rfl
                · exact OwnL.lower (ownsRow_setCell_below (ownsRow_setCell_below (ownsRow_setCell_below (ownsRow_setCell_below (OwnL.ext o5 e8) hs3 _) hs3 _) hs3 _) hs3 _) HEE.out
                · exact ((((EW.out.trans e8).setCell (Nat.le_refl _) _).setCell (Nat.le_refl _) _).setCell (Nat.le_refl _) _).setCell (Nat.le_refl _) _
end Go.Proofs.Ytcaeeoghkonniaa
