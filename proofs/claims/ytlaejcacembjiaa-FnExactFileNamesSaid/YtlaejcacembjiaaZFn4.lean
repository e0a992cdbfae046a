/- DecodeRecord of the program and of the reference. -/
import Derived.Test.YtlaejcacembjiaaZFn3
import Derived.Laws.CopyOwn
import Derived.Laws.BytesArg
import Derived.Laws.BitsAllLaws
import Derived.Deep.RegionHeld3
import Derived.StillTailTactics
set_option linter.unusedVariables false
set_option linter.unusedSimpArgs false
namespace Go.Proofs.Ytlaejcacembjiaa
open Go.RowKit Go.Sort

/-- what a call of DecodeRecord hands back -/
def DecOut (r : Option DRec) (j : Int) (w : World) (e : Ending) (w' : World) : Prop :=
  ∃ v, e = .returned (.tuple #[vrec (r.getD .zero).k (r.getD .zero).nm (r.getD .zero).ver v, .int .i64 j, .bool r.isSome]) ∧ OwnL vu8 5 w w' v (r.getD .zero).l ∧ Ext w w'
theorem DecOut.no {j : Int} {w w' : World} (he : Ext w w') : DecOut none j w (.returned (.tuple #[.agg #[.int .i64 0, .string ⟨#[]⟩, .int .i64 0, .slice none 0 0], .int .i64 j, .bool false])) w' := ⟨_, rfl, OwnL.nil _ _, he⟩

theorem dec_neg {b : List UInt8} {a : Int} (h : a < 0) : dec b a = none ∧ decEnd b a = a := by
  have h1 : dec b a = none := by unfold dec; rw [if_pos h]
  exact ⟨h1, by unfold decEnd; rw [h1]; rfl⟩
theorem dec_nat (b : List UInt8) (n : Nat) : dec b (n : Int) = decN b n := by
  unfold dec; rw [if_neg (by omega)]; rfl
theorem dec_no {b : List UInt8} {n : Nat} (h : decN b n = none) : dec b (n : Int) = none ∧ decEnd b (n : Int) = n := by
  have h1 : dec b (n : Int) = none := by rw [dec_nat]; exact h
  exact ⟨h1, by unfold decEnd; rw [h1]; rfl⟩
theorem dec_yes {b : List UInt8} {n : Nat} {r : DRec} (h : decN b n = some r) : dec b (n : Int) = some r ∧ decEnd b (n : Int) = ((n + nmAt b n + 6 + szAt b n : Nat) : Int) := by
  have h1 : dec b (n : Int) = some r := by rw [dec_nat]; exact h
  refine ⟨h1, ?_⟩
  unfold decEnd
  rw [h1, Int.toNat_natCast]
  simp
theorem getD_of_lt {l : List UInt8} {i : Nat} (h : i < l.length) : l.getD i 0 = l[i] := by simp [h]

section
variable {P : Program} {ops : Array Oper} {rest : List Oper} {o : Oper} {a : Act} {Q : Exit → Act → World → Prop}
/-- copy onto the whole of a row of the call's own -/
theorem wpList_copyL (hgd : o.guard = none) (d s : Operand) (dT sT : TypeId) (ho : o.op = .call { callee := .builtin .copy, args := #[d, s], argTypes := #[dT, sT] })
    {e : TypeId} {bytes : Nat} {z : Value} (hE : Elem P dT e 1 bytes z) {α : Type} (f : α → Value) (hf : ∀ x, (f x).oneCell' = true) (w0 w : World) (A : Option Addr) (n c : Nat) (hd : a.eval d = .slice A n c)
    (xs : List Value) (hown : Own e 1 w0 w (.slice A n c) n xs) (he : Ext w0 w) (sp : Option Addr) (sLen sCap : Nat) (hs : a.eval s = .slice sp sLen sCap)
    (ys : List α) (hy : ys.length = n) (hn : n ≤ sLen) (hA : 0 < ys.length → ∃ ad, sp = some ad ∧ ∀ j u, (ys.map f)[j]? = some u → w.cell? (ad.add j) = some u)
    (h : ∀ w', OwnL f e w0 w' (.slice A n c) ys → Ext w0 w' → wpList P ops Q rest (a.put o.dst (goInt n)) w') :
    wpList P ops Q (o :: rest) a w := by
  obtain ⟨i0, hi0, hz0, hz1, hz2⟩ := info_parts hE.hi
  have hsz : (P.info? e).map (·.size) = some 1 := by rw [hi0]; simp [hz1]
  rcases hown.2 with ⟨hv, rfl⟩ | ⟨g, cap, cur, hv, hb, hg, hnc, hcm, hcs, htake⟩
  · obtain rfl : ys = [] := List.eq_nil_of_length_eq_zero hy
    refine wpList_copy_nothing hgd d s dT sT ho e hE.ht hsz A sp 0 c sLen sCap hd hs (by simp) ?_
    exact h w (by rw [hv]; exact OwnL.nil _ _) he
  · injection hv with h1 _ h3
    subst h1; subst h3
    have hlen : (ys.map f).length = n := by simpa using hy
    refine wpList_copy_splice hgd d s dT sT ho e hE.ht hsz (some ⟨g, 0, none⟩) sp n c sLen sCap hd hs g 0 cur.toList e hg (ys.map f) (by rw [hlen]; exact (Nat.min_eq_right hn).symm)
      (fun hp => ⟨rfl, hA (by simpa using hp)⟩) (by simp; omega) (fun u hu => by obtain ⟨x, _, rfl⟩ := List.mem_map.1 hu; exact hf x) w0.heap.size w0 he hb ?_
    intro w' hg' hb'
    have hl' : (ys.map f).length = n * 1 := by rw [hlen]; omega
    have hnn : (goInt (ys.map f).length) = goInt n := by rw [hlen]
    rw [hnn]
    refine h w' ?_ hb'
    have hg'' := hg'.out
    unfold OwnL
    rw [hy]
    refine ⟨hl', .inr ⟨g, c, _, rfl, hb, hg'', hnc, hcm, ?_, ?_⟩⟩
    · rw [← hcs]
      have := length_splice cur.toList 0 (ys.map f) (by rw [hlen]; simp; omega)
      simpa using this
    · unfold splice
      rw [List.take_zero, List.nil_append, List.take_append_of_le_length (by omega), List.take_of_length_le (by omega)]
end
/-- a block of four cells, written one by one -/
theorem stored4 {w1 : World} {g : Nat} {x0 x1 x2 x3 : Value} (h : ∀ i, w1.cell? ⟨g, i, none⟩ = #[x0, x1, x2, x3][i]?) :
    (∀ y0, (w1.setCell ⟨g, 0, none⟩ y0).cell? ⟨g, 0, none⟩ = some y0) ∧ (∀ y0 y1, ((w1.setCell ⟨g, 0, none⟩ y0).setCell ⟨g, 1, none⟩ y1).cell? ⟨g, 1, none⟩ = some y1) ∧
    (∀ y0 y1 y2, (((w1.setCell ⟨g, 0, none⟩ y0).setCell ⟨g, 1, none⟩ y1).setCell ⟨g, 2, none⟩ y2).cell? ⟨g, 2, none⟩ = some y2) ∧
    (∀ y0 y1 y2 y3, ((((w1.setCell ⟨g, 0, none⟩ y0).setCell ⟨g, 1, none⟩ y1).setCell ⟨g, 2, none⟩ y2).setCell ⟨g, 3, none⟩ y3).cell? ⟨g, 3, none⟩ = some y3) := by
  have h0 := h 0; have h1 := h 1; have h2 := h 2; have h3 := h 3
  simp at h0 h1 h2 h3
  refine ⟨fun y0 => ?_, fun y0 y1 => ?_, fun y0 y1 y2 => ?_, fun y0 y1 y2 y3 => ?_⟩
  · apply World.cell?_setCell_same; exact h0
  · apply World.cell?_setCell_same (u := x1); simp [World.cell?_setCell_other, h1]
  · apply World.cell?_setCell_same (u := x2); simp [World.cell?_setCell_other, h2]
  · apply World.cell?_setCell_same (u := x3); simp [World.cell?_setCell_other, h3]
theorem strOfNums_bytes (p : List UInt8) : strOfNums (p.map fun x => (x.toNat : Int)) = ⟨p.toArray⟩ := by
  unfold strOfNums
  have : (p.map fun x => (x.toNat : Int)).map (fun n => UInt8.ofNat n.toNat) = p := by
    rw [List.map_map]
    conv => rhs; rw [← List.map_id p]
    apply List.map_congr_left
    intro x _
    simp
  rw [this]
/-- two bytes joined -/
theorem or_join {x y : Nat} (hx : x < 256) (hy : y < 256) : bits .or .i64 ((x : Int) * 256) (y : Int) = ((256 * x + y : Nat) : Int) := by
  rw [show (x : Int) * 256 = ((x * 256 : Nat) : Int) by omega]
  show IntKind.i64.wrap ((BitVec.ofInt 64 ((x * 256 : Nat) : Int) ||| BitVec.ofInt 64 (y : Int)).toNat : Int) = _
  rw [BitVec.toNat_or, ofInt_u64 _ (by omega), ofInt_u64 _ (by omega), nat_join8 _ _ (by omega) hy, IntKind.wrap_i64]
  omega
/-- string(b[i:i+n]) of a row that reads as l -/
theorem run_str {w : World} {b off : Nat} {l : List UInt8} (h : ∀ i (h : i < l.length), w.cell? ⟨b, off + i, none⟩ = some (vu8 l[i])) (lo n cap : Nat) (hn : lo + n ≤ l.length) :
    (convert 45 9 (.slice (some ⟨b, off + lo, none⟩) n cap)).run Try.prog w = .ok (.string ⟨((l.drop lo).take n).toArray⟩) w := by
  have hw : ((l.drop lo).take n).length = n := by simp; omega
  have h1 := run_convert_bytes_arg (P := Try.prog) w 45 5 Try.underlying45 Try.underlying5 b (off + lo) n cap (((l.drop lo).take n).map fun x => (x.toNat : Int)) (by rw [List.length_map]; exact hw) (fun i hi => by
    rw [Nat.add_assoc, h (lo + i) (by omega)]
    have e1 : ((l.drop lo).take n)[i]? = some l[lo + i] := by
      rw [List.getElem?_take_of_lt hi, List.getElem?_drop, List.getElem?_eq_getElem (by omega)]
    simp only [List.getD, List.getElem?_map, e1, Option.map_some, Option.getD_some, vu8]) 9 Try.underlying9
  rw [h1, strOfNums_bytes]

set_option maxRecDepth 100000 in
set_option maxHeartbeats 4000000 in
theorem iDecodeRecord_c (A : Option Addr) (l : List UInt8) (c : Nat) (a : Int) (w : World) (h : Bs w A l c) (ha : (Lit.int .i64 a).wf = true) :
    Calls Try.prog 157 #[.slice A l.length c, .int .i64 a] w (DecOut (dec l a) (decEnd l a) w) := by
  have hl := h.len
  have hcap := h.cap
  have ez := Ext_alloc (.cells #[.int .i64 0, .string ⟨#[]⟩, .int .i64 0, .slice none 0 0] 138) (Ext.refl w)
  by_cases h0 : a < 0
  · obtain ⟨q1, q2⟩ := dec_neg (b := l) h0
    rw [q1, q2]; clear q1 q2
    go_enter Try.func157, Try.ntmps157
    go_wp2
    refine bodyPost_ret (v := .tuple #[.agg #[.int .i64 0, .string ⟨#[]⟩, .int .i64 0, .slice none 0 0], .int .i64 a, .bool false]) (by simp [results, Try.results157, go_sem]) rfl (DecOut.no ez)
  · obtain ⟨n, rfl⟩ := Int.eq_ofNat_of_zero_le (show 0 ≤ a by omega)
    clear h0 ha
    by_cases h1 : l.length < n + 2
    · have hd : decN l n = none := by unfold decN; rw [if_pos (by omega)]
      obtain ⟨q1, q2⟩ := dec_no hd
      rw [q1, q2]; clear q1 q2 hd
      by_cases h2 : l.length < n
      all_goals
        go_enter Try.func157, Try.ntmps157
        go_wp2
        refine bodyPost_ret (v := .tuple #[.agg #[.int .i64 0, .string ⟨#[]⟩, .int .i64 0, .slice none 0 0], .int .i64 n, .bool false]) (by simp [results, Try.results157, go_sem]) rfl (DecOut.no ez)
    · obtain ⟨b, off, rfl, hb, hcs⟩ := h.base (by omega)
      obtain ⟨nm, hnm⟩ : ∃ nm, l[n+1].toNat = nm := ⟨_, rfl⟩
      have hnm8 : nm < 256 := by rw [← hnm]; exact UInt8.toNat_lt _
      have HNM : Hid (nmAt l n = nm) := by show _ = _; unfold nmAt; rw [getD_of_lt (by omega)]; exact hnm
      have hc1 : ∀ w', Ext w w' → w'.cell? ⟨b, off + n + 1, none⟩ = some (.int .u8 (nm : Int)) := by
        intro w' e; have := hcs w' e (n+1) (by omega); rw [← Nat.add_assoc] at this; rw [this, vu8, hnm]
      clear hnm
      by_cases h2 : l.length < n + nm + 6
      · have hd : decN l n = none := by unfold decN; rw [HNM.out, if_pos (by omega)]
        obtain ⟨q1, q2⟩ := dec_no hd
        rw [q1, q2]; clear q1 q2 hd hcs h
        go_enter Try.func157, Try.ntmps157
        go_wp2
        refine bodyPost_ret (v := .tuple #[.agg #[.int .i64 0, .string ⟨#[]⟩, .int .i64 0, .slice none 0 0], .int .i64 n, .bool false]) (by simp [results, Try.results157, go_sem]) rfl (DecOut.no ez)
      · obtain ⟨x3, hx3⟩ : ∃ x, l[n + nm + 3].toNat = x := ⟨_, rfl⟩
        obtain ⟨x4, hx4⟩ : ∃ x, l[n + nm + 4].toNat = x := ⟨_, rfl⟩
        have hx38 : x3 < 256 := by rw [← hx3]; exact UInt8.toNat_lt _
        have hx48 : x4 < 256 := by rw [← hx4]; exact UInt8.toNat_lt _
        have HSZ : Hid (szAt l n = 256 * x3 + x4) := by show _ = _; unfold szAt; rw [HNM.out, getD_of_lt (by omega), getD_of_lt (by omega), hx3, hx4]
        have hc3 : ∀ w', Ext w w' → w'.cell? ⟨b, off + n + (nm + 3), none⟩ = some (.int .u8 (x3 : Int)) := by
          intro w' e; have := hcs w' e (n+nm+3) (by omega); rw [show off + (n + nm + 3) = off + n + (nm + 3) by omega] at this; rw [this, vu8, hx3]
        have hc4 : ∀ w', Ext w w' → w'.cell? ⟨b, off + n + (nm + 4), none⟩ = some (.int .u8 (x4 : Int)) := by
          intro w' e; have := hcs w' e (n+nm+4) (by omega); rw [show off + (n + nm + 4) = off + n + (nm + 4) by omega] at this; rw [this, vu8, hx4]
        clear hx3 hx4
        have hor := or_join hx38 hx48
        obtain ⟨sz, hsz⟩ : ∃ sz, 256 * x3 + x4 = sz := ⟨_, rfl⟩
        have hsz8 : sz < 65536 := by omega
        rw [hsz] at hor HSZ
        clear hsz
        have B := fun w' (e : Ext (w.alloc (.cells #[.int .i64 0, .string ⟨#[]⟩, .int .i64 0, .slice none 0 0] 138)) w') => boxed e
        have F := fun w' (e : Ext (w.alloc (.cells #[.int .i64 0, .string ⟨#[]⟩, .int .i64 0, .slice none 0 0] 138)) w') => boxed_free e
        by_cases h3 : l.length < n + nm + 6 + sz
        · have hd : decN l n = none := by unfold decN; rw [HNM.out, HSZ.out, if_pos (by omega)]
          obtain ⟨q1, q2⟩ := dec_no hd
          rw [q1, q2]; clear q1 q2 hd hcs h
          go_enter Try.func157, Try.ntmps157
          go_wp2
          refine wp_region_quiet_below (by kernel_rfl) (by kernel_rfl) ?_
          repeat (go_big_quiet_step (fail))
          refine wpQuiet_nil ?_
          rintro w1 ⟨⟨nq, osq⟩, hq⟩
          have ew1 := ext_of_q hq
          clear hq nq osq
          go_wp2
          obtain ⟨s0, s1, s2, s3⟩ := stored4 (B _ ew1)
          refine bodyPost_ret (v := .tuple #[.agg #[.int .i64 0, .string ⟨#[]⟩, .int .i64 0, .slice none 0 0], .int .i64 n, .bool false]) (by simp [results, Try.results157, go_sem, s0, s1, s2, s3]) rfl (DecOut.no ?_)
          exact ((((ez.trans ew1).setCell (Nat.le_refl _) _).setCell (Nat.le_refl _) _).setCell (Nat.le_refl _) _).setCell (Nat.le_refl _) _
        · obtain ⟨p, hp⟩ : ∃ p, (l.drop (n + nm + 5)).take sz = p := ⟨_, rfl⟩
          have hpl : p.length = sz := by rw [← hp]; simp; omega
          subst hpl
          have HP := Lib.hid hp; clear hp
          have HPC : Hid (∀ w', Ext w w' → ∀ j u, (p.map vu8)[j]? = some u → w'.cell? ((⟨b, off + n + (nm + 5), none⟩ : Addr).add j) = some u) := by
            intro w' e j u hu
            rw [← HP.out] at hu
            have := part_cells (hcs w' e) (n + nm + 5) p.length j u hu
            rwa [show off + (n + nm + 5) = off + n + (nm + 5) by omega] at this
          have HPL : Hid (p.length ≤ 140737488351232) := by show _ ≤ _; omega
          have H := Lib.hid h; have HCS := Lib.hid hcs; clear h hcs
          obtain ⟨d, hdd⟩ : ∃ d, (unpack p).getD [] = d := ⟨_, rfl⟩
          obtain ⟨ok, hok⟩ : ∃ ok, (unpack p).isSome = ok := ⟨_, rfl⟩
          have hd1 : d.length ≤ 1000 := by have := unpack_le p; rw [hdd] at this; exact this
          have HDL : Hid (d.length ≤ 140737488351232) := by show _ ≤ _; omega
          obtain ⟨x0, hx0⟩ : ∃ x, l[n].toNat = x := ⟨_, rfl⟩
          obtain ⟨x2, hx2⟩ : ∃ x, l[n + nm + 2].toNat = x := ⟨_, rfl⟩
          have hx08 : x0 < 256 := by rw [← hx0]; exact UInt8.toNat_lt _
          have hx28 : x2 < 256 := by rw [← hx2]; exact UInt8.toNat_lt _
          have hc0 : ∀ w', Ext w w' → w'.cell? ⟨b, off + n, none⟩ = some (.int .u8 (x0 : Int)) := by
            intro w' e; have := HCS.out w' e n (by omega); rw [this, vu8, hx0]
          have hc2 : ∀ w', Ext w w' → w'.cell? ⟨b, off + n + (nm + 2), none⟩ = some (.int .u8 (x2 : Int)) := by
            intro w' e; have := HCS.out w' e (n+nm+2) (by omega); rw [show off + (n + nm + 2) = off + n + (nm + 2) by omega] at this; rw [this, vu8, hx2]
          obtain ⟨NM, hNM⟩ : ∃ NM : ByteArray, ⟨((l.drop (n + 2)).take nm).toArray⟩ = NM := ⟨_, rfl⟩
          have hcv : ∀ w' cap, Ext w w' → (convert 45 9 (.slice (some ⟨b, off + n + 2, none⟩) nm cap)).run Try.prog w' = .ok (.string NM) w' := by
            intro w' cap e
            have := run_str (HCS.out w' e) (n + 2) nm cap (by omega)
            rwa [← Nat.add_assoc, hNM] at this
          have HREC : Hid (recAt l n d = ⟨x0, NM, x2, d⟩) := by
            show _ = _; unfold recAt; rw [HNM.out, getD_of_lt (by omega), getD_of_lt (by omega), hx0, hx2, hNM]
          have hNMs : NM.size ≤ 9223372036854775807 := by
            have : NM.size = nm := by rw [← hNM]; show ((l.drop (n+2)).take nm).toArray.size = _; simp; omega
            omega
          clear hx0 hx2 hNM
          have CU := Lib.hid (fun A c w h => iUnpackBytes_c A p c w h)
          rw [hdd, hok] at CU
          have HDEC0 : ok = false → decN l n = none := by
            intro hf
            have : unpack p = none := by
              cases hu : unpack p with
              | none => rfl
              | some x => rw [hu] at hok; rw [hf] at hok; cases hok
            unfold decN
            rw [HNM.out, HSZ.out, if_neg (by omega), HP.out, this]
          have HDEC1 : ok = true → decN l n = if validRec x0 NM x2 d.length && (encRec x0 NM x2 d == (l.drop n).take (nm + 6 + p.length)) then some ⟨x0, NM, x2, d⟩ else none := by
            intro ht
            have : unpack p = some d := by
              cases hu : unpack p with
              | none => rw [hu] at hok; rw [ht] at hok; cases hok
              | some x => rw [hu] at hdd; rw [← hdd]; rfl
            unfold decN
            rw [HNM.out, HSZ.out, if_neg (by omega), HP.out, this]
            simp only [HREC.out, DRec.ok, DRec.enc]
          have HDEC0 := Lib.hid HDEC0; have HDEC1 := Lib.hid HDEC1
          clear hok hdd
          go_enter Try.func157, Try.ntmps157
          go_wp2
          refine wp_region_quiet_below (by kernel_rfl) (by kernel_rfl) ?_
          repeat (go_big_quiet_step (fail))
          refine wpQuiet_nil ?_
          rintro w1 ⟨⟨nq, osq⟩, hq⟩
          have ew1 := ext_of_q hq
          clear hq nq osq
          have e1 := ew1
          have e1' := ez.trans e1
          go_wp2_with (first
            | (at_make; refine wpList_mk rfl _ _ _ rfl E_u8 _ _ e1 p.length rfl rfl (by omega) (by simp [maxLen]; omega) ?_; intro w2 ho2 he2 _; have he2' := ez.trans he2)
            | (refine wpList_copyL rfl (.tmp 70) (.tmp 74) _ _ rfl E_u8 vu8 (fun _ => rfl) _ _ _ p.length _ rfl _ ho2 he2 _ _ _ rfl p rfl (by omega) (fun _ => ⟨_, rfl, HPC.out _ he2'⟩) ?_; intro w3 ho3 he3; have he3' := ez.trans he3; obtain ⟨A3, c3, hv3, hr3⟩ := ho3.rd HPL.out; injection hv3 with q1 _ q2; subst q1; subst q2)
            | (go_at_call 174; refine (CU.out _ _ _ hr3).mono ?_; rintro _ w4 ⟨v4, rfl, ho4, he4⟩; have he34 := he3.trans he4; have he34' := ez.trans he34; obtain ⟨A4, c4, hv4, hr4⟩ := OwnL.rd ho4 HDL.out; subst hv4))
          have hcv' := fun w' cap (e : Ext w4 w') => hcv w' cap (he34'.trans e)
          have hc0' := fun w' (e : Ext w4 w') => hc0 w' (he34'.trans e)
          have hc2' := fun w' (e : Ext w4 w') => hc2 w' (he34'.trans e)
          clear hcv hc0 hc2 hc1 hc3 hc4
          have g1 : (0 : Int) < ((l.length - n : Nat) : Int) := by omega
          have g1' : 0 < l.length - n := by omega
          have g2 : IntKind.i64.wrap (2 + (nm : Int)) = 2 + (nm : Int) := IntWalk.i64_in _ (by omega)
          have g3 : (0 : Int) ≤ 2 + (nm : Int) := by omega
          have g4 : (2 + (nm : Int)).toNat = 2 + nm := by omega
          have g5 : (2 : Int) ≤ 2 + (nm : Int) := by omega
          have g6 : 2 + (nm : Int) ≤ ((c - n : Nat) : Int) := by omega
          have g6' : 2 + nm ≤ c - n := by omega
          have g6'' : ¬ c - n = 2 := by omega
          have g7 : IntKind.i64.wrap ((nm : Int) + 2) = (nm : Int) + 2 := IntWalk.i64_in _ (by omega)
          have g8 : (nm : Int) + 2 < ((l.length - n : Nat) : Int) := by omega
          have g8' : nm + 2 < l.length - n := by omega
          have g9 : ((nm : Int) + 2).toNat = nm + 2 := by omega
          have g9' : (0 : Int) ≤ (nm : Int) + 2 := by omega
          have g10 : IntKind.i64.wrap (x0 : Int) = (x0 : Int) := IntWalk.i64_in _ (by omega)
          have g11 : IntKind.i64.wrap (x2 : Int) = (x2 : Int) := IntWalk.i64_in _ (by omega)
          go_region_held3 (fun w' => Ext w4 w') (first | assumption | exact Ext_drew (Ext.refl _) | exact Ext_drew (Ext_alloc _ (Ext.refl _)) | exact Ext_alloc _ (Ext_drew (Ext.refl _)) | exact Ext.trans (by assumption) (by assumption)) (first | fail)
          have ebx := Ext_alloc (.cells #[.int .i64 x0, .string NM, .int .i64 x2, .slice A4 d.length c4] 138) (Ext.refl w4)
          generalize hw5 : (w4.alloc (.cells #[.int .i64 x0, .string NM, .int .i64 x2, .slice A4 d.length c4] 138)).drew = w5
          have e5 : Ext (w4.alloc (.cells #[.int .i64 x0, .string NM, .int .i64 x2, .slice A4 d.length c4] 138)) w5 := by rw [← hw5]; exact Ext_drew (Ext.refl _)
          clear hw5
          have D := fun w' (e : Ext w5 w') => boxed (e5.trans e)
          have e45 := ebx.trans e5
          have r5 := hr4.ext e45
          have o5 := OwnL.ext ho4 e45
          have z5 := he34.trans e45
          have hs3 : w.heap.size < w3.heap.size := by have := he3.size; simp at this; omega
          have HEE : Hid (Ext w w3) := he3'
          have B5 := fun w' (e : Ext w5 w') => B w' (z5.trans e)
          have F5 := fun w' (e : Ext w5 w') => F w' (z5.trans e)
          clear hcv' hc0' hc2' ho3 hr3 he2 he2' ho2 e1 e1' ew1 he3 ho4 hr4 B F
          have keyno : ∀ w6, Ext w5 w6 → decN l n = none → DecOut (dec l (n : Int)) (decEnd l (n : Int)) w (.returned (.tuple #[.agg #[.int .i64 0, .string ⟨#[]⟩, .int .i64 0, .slice none 0 0], .int .i64 n, .bool false]))
              ((((w6.setCell ⟨w.heap.size, 0, none⟩ (.int .i64 0)).setCell ⟨w.heap.size, 1, none⟩ (.string ⟨#[]⟩)).setCell ⟨w.heap.size, 2, none⟩ (.int .i64 0)).setCell ⟨w.heap.size, 3, none⟩ (.slice none 0 0)) := by
            intro w6 e6 hd
            obtain ⟨q1, q2⟩ := dec_no hd
            rw [q1, q2]
            exact DecOut.no (((((ez.trans (z5.trans e6)).setCell (Nat.le_refl _) _).setCell (Nat.le_refl _) _).setCell (Nat.le_refl _) _).setCell (Nat.le_refl _) _)
          have KN := Lib.hid keyno; clear keyno
          cases ok
          · have HD0 : Hid (decN l n = none) := HDEC0.out rfl
            clear HDEC0 HDEC1
            go_wp2_with fail
            refine wp_region_quiet_below (by kernel_rfl) (by kernel_rfl) ?_
            repeat (go_big_quiet_step (fail))
            refine wpQuiet_nil ?_
            rintro w6 ⟨⟨nq, osq⟩, hq⟩
            have ew6 := ext_of_q hq
            clear hq nq osq
            go_wp2
            obtain ⟨s0, s1, s2, s3⟩ := stored4 (B5 _ ew6)
            exact bodyPost_ret (v := .tuple #[.agg #[.int .i64 0, .string ⟨#[]⟩, .int .i64 0, .slice none 0 0], .int .i64 n, .bool false]) (by simp [results, Try.results157, go_sem, s0, s1, s2, s3]) rfl (KN.out _ ew6 HD0.out)
          · have C1 := Lib.hid (fun w => iIsValidRecord_c x0 NM x2 A4 d c4 w HDL.out hNMs)
            have HD1 := Lib.hid (HDEC1.out rfl)
            clear HDEC0 HDEC1
            cases hV : validRec x0 NM x2 d.length
            · rw [hV] at C1 HD1
              have HD2 : Hid (decN l n = none) := HD1.out
              unfold vrec at C1
              clear HD1
              go_wp2_with fail
              refine wp_region_quiet_below (by kernel_rfl) (by kernel_rfl) ?_
              repeat (go_big_quiet_step ((go_at_call 175; exact Calls.regrown_of (C1.out _))))
              refine wpQuiet_nil ?_
              rintro w6 ⟨⟨nq, osq⟩, hq⟩
              have ew6 := ext_of_q hq
              clear hq nq osq
              have e6 := ew6
              go_wp2
              obtain ⟨s0, s1, s2, s3⟩ := stored4 (B5 _ e6)
              exact bodyPost_ret (v := .tuple #[.agg #[.int .i64 0, .string ⟨#[]⟩, .int .i64 0, .slice none 0 0], .int .i64 n, .bool false]) (by simp [results, Try.results157, go_sem, s0, s1, s2, s3]) rfl (KN.out _ e6 HD2.out)
            · rw [hV] at C1 HD1
              have C2 := Lib.hid (fun w h => iEncodeRecord_c x0 NM x2 A4 d c4 w h hNMs)
              have hEl := encRec_le x0 NM x2 d
              obtain ⟨E, hE⟩ : ∃ E, encRec x0 NM x2 d = E := ⟨_, rfl⟩
              rw [hE] at HD1 C2 hEl
              have HEL : Hid (E.length ≤ 140737488351232) := by show _ ≤ _; omega
              obtain ⟨q, hq⟩ : ∃ q, (l.drop n).take (nm + 6 + p.length) = q := ⟨_, rfl⟩
              have hql : q.length = nm + 6 + p.length := by rw [← hq]; simp; omega
              have rq : ∀ w', Ext w w' → Bs w' (some ⟨b, off + n, none⟩) q (c - n) := by
                intro w' e
                refine ⟨⟨by omega, by omega, fun _ => ⟨b, off + n, rfl, Nat.lt_of_lt_of_le hb e.size, fun w2 e2 i hi => ?_⟩⟩, by omega⟩
                have h5 := HCS.out w2 (e.trans e2) (n + i) (by omega)
                rw [← Nat.add_assoc] at h5
                rw [h5]
                simp only [← hq, List.getElem_take, List.getElem_drop]
              rw [hq] at HD1
              have CE := Lib.hid (fun A' c' w' (h : Bs w' A' E c') (e : Ext w w') => iEqualBytes_c A' (some ⟨b, off + n, none⟩) E q c' (c - n) w' h (rq w' e))
              rw [hql] at CE
              obtain ⟨r, hr⟩ : ∃ r, (E == q) = r := ⟨_, rfl⟩
              rw [hr] at CE HD1
              clear rq hq hE hql hr
              have k1 : IntKind.i64.wrap ((nm : Int) + 6) = (nm : Int) + 6 := IntWalk.i64_in _ (by omega)
              have k2 : IntKind.i64.wrap ((nm : Int) + 6 + (p.length : Int)) = (nm : Int) + 6 + (p.length : Int) := IntWalk.i64_in _ (by omega)
              have k3 : (0 : Int) ≤ (nm : Int) + 6 + (p.length : Int) := by omega
              have k4 : ((nm : Int) + 6 + (p.length : Int)).toNat = nm + 6 + p.length := by omega
              have k5 : (nm : Int) + 6 + (p.length : Int) ≤ ((c - n : Nat) : Int) := by omega
              have k5' : nm + 6 + p.length ≤ c - n := by omega
              have EW : Hid (Ext w w5) := ez.trans z5
              unfold vrec at C1 C2
              go_wp2_with fail
              go_region_held3 (fun w' => Ext w5 w') (first | assumption | exact Ext_drew (Ext.refl _) | exact Ext.trans (by assumption) (by assumption)) (first
                | (go_at_call 175; refine (C1.out _).mono ?_; rintro _ w6 ⟨rfl, he6⟩)
                | (go_at_call 177; refine (C2.out _ (r5.ext (by assumption))).mono ?_; rintro _ w7 ⟨v7, rfl, ho7, he7⟩; obtain ⟨A7, c7, rfl, r7⟩ := OwnL.rd ho7 HEL.out)
                | (go_at_call 176; refine (CE.out _ _ _ r7 (EW.out.trans (by assumption))).mono ?_; rintro _ w8 ⟨rfl, he8⟩))
              have e8 : Ext w5 w8 := by assumption
              clear he8 he7 r7 ho7 he6
              cases r
              · have HD2 : Hid (decN l n = none) := HD1.out
                go_wp2
                obtain ⟨s0, s1, s2, s3⟩ := stored4 (B5 _ e8)
                exact bodyPost_ret (v := .tuple #[.agg #[.int .i64 0, .string ⟨#[]⟩, .int .i64 0, .slice none 0 0], .int .i64 n, .bool false]) (by simp [results, Try.results157, go_sem, s0, s1, s2, s3]) rfl (KN.out _ e8 HD2.out)
              · have HD2 : Hid (decN l n = some ⟨x0, NM, x2, d⟩) := HD1.out
                clear HD1
                go_wp2
                obtain ⟨s0, s1, s2, s3⟩ := stored4 (B5 _ e8)
                refine bodyPost_ret (v := .tuple #[.agg #[.int .i64 x0, .string NM, .int .i64 x2, .slice A4 d.length c4], .int .i64 ((n : Int) + (nm : Int) + 6 + (p.length : Int)), .bool true]) (by simp [results, Try.results157, go_sem, s0, s1, s2, s3]) rfl ?_
                obtain ⟨q1, q2⟩ := dec_yes HD2.out
                rw [q1, q2, HNM.out, HSZ.out]
                refine ⟨.slice A4 d.length c4, ?_, ?_, ?_⟩
                · rw [show ((n + nm + 6 + p.length : Nat) : Int) = (n : Int) + (nm : Int) + 6 + (p.length : Int) by omega]
                  rfl
                · exact OwnL.lower (ownsRow_setCell_below (ownsRow_setCell_below (ownsRow_setCell_below (ownsRow_setCell_below (OwnL.ext o5 e8) hs3 _) hs3 _) hs3 _) hs3 _) HEE.out
                · exact ((((EW.out.trans e8).setCell (Nat.le_refl _) _).setCell (Nat.le_refl _) _).setCell (Nat.le_refl _) _).setCell (Nat.le_refl _) _
end Go.Proofs.Ytlaejcacembjiaa

/- DecodeRecord of the reference. -/
namespace Go.Proofs.Ytlaejcacembjiaa
open Go.RowKit Go.Sort

/-- the number of bytes, the greatest first -/
def beN (l : List UInt8) : Nat := l.foldl (fun n x => 256 * n + x.toNat) 0
theorem beN_take {l : List UInt8} {k : Nat} (h : k < l.length) : beN (l.take (k+1)) = 256 * beN (l.take k) + l[k].toNat := by
  rw [List.take_succ_eq_append_getElem h]; unfold beN; rw [List.foldl_append]; rfl
theorem beN_lt : ∀ (l : List UInt8), l.length ≤ 4 → beN l < 4294967296 := by
  intro l h
  have h8 := fun (x : UInt8) => x.toNat_lt
  match l, h with
  | [], _ => decide
  | [a], _ => have := h8 a; simp [beN]; omega
  | [a, b], _ => have := h8 a; have := h8 b; simp [beN]; omega
  | [a, b, c], _ => have := h8 a; have := h8 b; have := h8 c; simp [beN]; omega
  | [a, b, c, d], _ => have := h8 a; have := h8 b; have := h8 c; have := h8 d; simp [beN]; omega
set_option maxHeartbeats 1000000 in
theorem ReadInteger_c (A : Option Addr) (l : List UInt8) (c : Nat) (w : World) (h : Bs w A l c) (hl : l.length ≤ 4) :
    Gives Try.prog 171 #[.slice A l.length c, .bool false] w (.int .i64 (beN l : Nat)) := by
  go_enter Try.func171, Try.ntmps171
  go_wp2
  go_loopw [5, 6, 7] (fun n i _ wr => ∃ k : Nat, k ≤ l.length ∧ i = .int .i64 k ∧ n = .int .i64 (beN (l.take k) : Nat) ∧ Ext w wr) (fun _ i _ _ => l.length - (intOf i).toNat)
  case atStart => exact ⟨0, by omega, rfl, by simp [beN], Ext.refl _⟩
  case round =>
    obtain ⟨k, hk, rfl, rfl, he⟩ := hrel
    by_cases hlt : k < l.length
    · obtain ⟨b, off, rfl, hb, hc⟩ := h.at k hlt
      have hst := Lib.hid (beN_take hlt)
      have h1 := beN_lt (l.take k) (by simp; omega)
      have h3 := l[k].toNat_lt
      generalize hs : beN (l.take k) = s at *
      clear hs
      go_wp2
      go_roundw
      case rel => exact ⟨k+1, by omega, by go_num, by rw [hst.out]; go_num, he⟩
      case measure => simp [intOf]; omega
    · obtain rfl : k = l.length := by omega
      have ht : beN (l.take l.length) = beN l := by rw [List.take_of_length_le (by omega)]
      have HT := Lib.hid ht; clear ht
      go_wp2
      go_ret
      exact ⟨ret_i64 (by rw [HT.out]), he⟩

set_option maxRecDepth 100000 in
set_option maxHeartbeats 4000000 in
theorem sDecodeRecord_c (A : Option Addr) (l : List UInt8) (c : Nat) (a : Int) (w : World) (h : Bs w A l c) (ha : (Lit.int .i64 a).wf = true) :
    Calls Try.prog 153 #[.slice A l.length c, .int .i64 a] w (DecOut (dec l a) (decEnd l a) w) := by
  have hl := h.len
  have hcap := h.cap
  have ez := Ext_alloc (.cells #[.int .i64 0, .string ⟨#[]⟩, .int .i64 0, .slice none 0 0] 138) (Ext.refl w)
  have B := fun w' (e : Ext (w.alloc (.cells #[.int .i64 0, .string ⟨#[]⟩, .int .i64 0, .slice none 0 0] 138)) w') => boxed e
  have F := fun w' (e : Ext (w.alloc (.cells #[.int .i64 0, .string ⟨#[]⟩, .int .i64 0, .slice none 0 0] 138)) w') => boxed_free e
  by_cases h1 : a < 0 ∨ (l.length : Int) < a + 2
  · have hd : dec l a = none ∧ decEnd l a = a := by
      by_cases h0 : a < 0
      · exact dec_neg h0
      · obtain ⟨n, rfl⟩ := Int.eq_ofNat_of_zero_le (show 0 ≤ a by omega)
        exact dec_no (by unfold decN; rw [if_pos (by omega)])
    obtain ⟨q1, q2⟩ := hd
    have HI : Hid ((decide (0 ≤ a) && decide (a ≤ (l.length : Int) - 2)) = false) := by
      show _ = _; rw [Bool.and_eq_false_iff]; simp; omega
    rw [q1, q2]; clear q1 q2 h1
    go_enter Try.func153, Try.ntmps153
    go_wp2_with (go_at_call 104; refine (l1In_c _ _ _ _).mono ?_; rintro _ w1 ⟨rfl, he1⟩; rw [HI.out])
    obtain ⟨s0, s1, s2, s3⟩ := stored4 (B _ he1)
    refine bodyPost_ret (v := .tuple #[.agg #[.int .i64 0, .string ⟨#[]⟩, .int .i64 0, .slice none 0 0], .int .i64 a, .bool false]) (by simp [results, Try.results153, go_sem, s0, s1, s2, s3]) rfl (DecOut.no ?_)
    exact ((((ez.trans he1).setCell (Nat.le_refl _) _).setCell (Nat.le_refl _) _).setCell (Nat.le_refl _) _).setCell (Nat.le_refl _) _
  · obtain ⟨n, rfl⟩ := Int.eq_ofNat_of_zero_le (show 0 ≤ a by omega)
    have hn2 : n + 2 ≤ l.length := by omega
    have HI : Hid ((decide ((0 : Int) ≤ (n : Int)) && decide ((n : Int) ≤ (l.length : Int) - 2)) = true) := by
      show _ = _; simp; omega
    clear ha h1
    obtain ⟨b, off, rfl, hb, hcs⟩ := h.base (by omega)
    obtain ⟨nm, hnm⟩ : ∃ nm, l[n+1].toNat = nm := ⟨_, rfl⟩
    have hnm8 : nm < 256 := by rw [← hnm]; exact UInt8.toNat_lt _
    have HNM : Hid (nmAt l n = nm) := by show _ = _; unfold nmAt; rw [getD_of_lt (by omega)]; exact hnm
    have hc1 : ∀ w', Ext w w' → w'.cell? ⟨b, off + (n + 1), none⟩ = some (.int .u8 (nm : Int)) := by
      intro w' e; have := hcs w' e (n+1) (by omega); rw [this, vu8, hnm]
    clear hnm
    have keyno : ∀ w6, Ext (w.alloc (.cells #[.int .i64 0, .string ⟨#[]⟩, .int .i64 0, .slice none 0 0] 138)) w6 → decN l n = none → DecOut (dec l (n : Int)) (decEnd l (n : Int)) w (.returned (.tuple #[.agg #[.int .i64 0, .string ⟨#[]⟩, .int .i64 0, .slice none 0 0], .int .i64 n, .bool false]))
        ((((w6.setCell ⟨w.heap.size, 0, none⟩ (.int .i64 0)).setCell ⟨w.heap.size, 1, none⟩ (.string ⟨#[]⟩)).setCell ⟨w.heap.size, 2, none⟩ (.int .i64 0)).setCell ⟨w.heap.size, 3, none⟩ (.slice none 0 0)) := by
      intro w6 e6 hd
      obtain ⟨q1, q2⟩ := dec_no hd
      rw [q1, q2]
      exact DecOut.no (((((ez.trans e6).setCell (Nat.le_refl _) _).setCell (Nat.le_refl _) _).setCell (Nat.le_refl _) _).setCell (Nat.le_refl _) _)
    have KN := Lib.hid keyno; clear keyno
    by_cases h2 : l.length < n + nm + 5
    · have HD : Hid (decN l n = none) := by show _ = _; unfold decN; rw [HNM.out, if_pos (by omega)]
      clear hcs h
      go_enter Try.func153, Try.ntmps153
      go_wp2_with (go_at_call 104; refine (l1In_c _ _ _ _).mono ?_; rintro _ w1 ⟨rfl, he1⟩; rw [HI.out]; have he1' := ez.trans he1)
      obtain ⟨s0, s1, s2, s3⟩ := stored4 (B _ he1)
      exact bodyPost_ret (v := .tuple #[.agg #[.int .i64 0, .string ⟨#[]⟩, .int .i64 0, .slice none 0 0], .int .i64 n, .bool false]) (by simp [results, Try.results153, go_sem, s0, s1, s2, s3]) rfl (KN.out _ he1 HD.out)
    · obtain ⟨sz, hsz⟩ : ∃ sz, szAt l n = sz := ⟨_, rfl⟩
      have hszv : beN [l[n + nm + 3], l[n + nm + 4]] = sz := by
        rw [← hsz]; unfold szAt; rw [HNM.out, getD_of_lt (by omega), getD_of_lt (by omega)]; simp [beN]
      have hsz8 : sz < 65536 := by
        rw [← hszv]; have := (l[n+nm+3]).toNat_lt; have := (l[n+nm+4]).toNat_lt; simp [beN]; omega
      have HSZ := Lib.hid hsz; clear hsz
      have CR : Hid (∀ w' o len cap, o = off + (n + nm + 3) → len = 2 → 2 ≤ cap → Ext w w' → Gives Try.prog 171 #[.slice (some ⟨b, o, none⟩) len cap, .bool false] w' (.int .i64 (sz : Nat))) := by
        intro w' o len cap ho hlen hcap' e
        subst ho; subst hlen
        have hb2 : Bs w' (some ⟨b, off + (n + nm + 3), none⟩) [l[n + nm + 3], l[n + nm + 4]] cap := by
          refine ⟨⟨by simpa using hcap', by simp, fun _ => ⟨b, off + (n + nm + 3), rfl, Nat.lt_of_lt_of_le hb e.size, fun w2 e2 i hi => ?_⟩⟩, by simp⟩
          have hi2 : i < 2 := by simpa using hi
          rcases (by omega : i = 0 ∨ i = 1) with rfl | rfl
          · simpa using hcs w2 (e.trans e2) (n + nm + 3) (by omega)
          · have := hcs w2 (e.trans e2) (n + nm + 4) (by omega)
            rw [show off + (n + nm + 4) = off + (n + nm + 3) + 1 by omega] at this
            simpa using this
        have := ReadInteger_c _ _ cap w' hb2 (by simp)
        rw [hszv] at this
        exact this
      clear hszv
      by_cases h3 : l.length < n + nm + 6 + sz
      · have HD : Hid (decN l n = none) := by show _ = _; unfold decN; rw [HNM.out, HSZ.out, if_pos (by omega)]
        have H := Lib.hid h; have HCS := Lib.hid hcs; clear h hcs
        go_enter Try.func153, Try.ntmps153
        go_wp2_with (first
          | (go_at_call 104; refine (l1In_c _ _ _ _).mono ?_; rintro _ w1 ⟨rfl, he1⟩; rw [HI.out]; have he1' := ez.trans he1)
          | (go_at_call 171; refine (CR.out _ _ _ _ (by omega) (by omega) (by omega) he1').mono ?_; rintro _ w2 ⟨rfl, he2⟩; have he12 := he1.trans he2))
        obtain ⟨s0, s1, s2, s3⟩ := stored4 (B _ he12)
        exact bodyPost_ret (v := .tuple #[.agg #[.int .i64 0, .string ⟨#[]⟩, .int .i64 0, .slice none 0 0], .int .i64 n, .bool false]) (by simp [results, Try.results153, go_sem, s0, s1, s2, s3]) rfl (KN.out _ he12 HD.out)
      · obtain ⟨p, hp⟩ : ∃ p, (l.drop (n + nm + 5)).take sz = p := ⟨_, rfl⟩
        have hpl : p.length = sz := by rw [← hp]; simp; omega
        have rp : ∀ w' o len cap, o = off + (n + nm + 5) → len = p.length → p.length ≤ cap → Ext w w' → Bs w' (some ⟨b, o, none⟩) p cap ∧ len = p.length := by
          intro w' o len cap ho hlen hcap' e
          subst ho
          refine ⟨⟨⟨hcap', by omega, fun _ => ⟨b, off + (n + nm + 5), rfl, Nat.lt_of_lt_of_le hb e.size, fun w2 e2 i hi => ?_⟩⟩, by omega⟩, hlen⟩
          have h5 := hcs w2 (e.trans e2) (n + nm + 5 + i) (by omega)
          rw [← Nat.add_assoc] at h5
          rw [h5]
          simp only [← hp, List.getElem_take, List.getElem_drop]
        subst hpl
        have HP := Lib.hid hp; clear hp
        obtain ⟨d, hdd⟩ : ∃ d, (unpack p).getD [] = d := ⟨_, rfl⟩
        obtain ⟨ok, hok⟩ : ∃ ok, (unpack p).isSome = ok := ⟨_, rfl⟩
        have hd1 : d.length ≤ 1000 := by have := unpack_le p; rw [hdd] at this; exact this
        have HDL : Hid (d.length ≤ 140737488351232) := by show _ ≤ _; omega
        have CU : Hid (∀ w' o len cap, o = off + (n + nm + 5) → len = p.length → p.length ≤ cap → Ext w w' →
            Calls Try.prog 172 #[.slice (some ⟨b, o, none⟩) len cap] w' fun e w'' => ∃ v, e = .returned (.tuple #[v, .bool ok]) ∧ OwnL vu8 5 w' w'' v d ∧ Ext w' w'') := by
          intro w' o len cap ho hlen hcap' e
          obtain ⟨r1, r2⟩ := rp w' o len cap ho hlen hcap' e
          subst r2
          have := sUnpackBytes_c _ _ _ _ r1
          rw [hdd, hok] at this
          exact this
        clear hok rp
        obtain ⟨x0, hx0⟩ : ∃ x, l[n].toNat = x := ⟨_, rfl⟩
        obtain ⟨x2, hx2⟩ : ∃ x, l[n + nm + 2].toNat = x := ⟨_, rfl⟩
        have hx08 : x0 < 256 := by rw [← hx0]; exact UInt8.toNat_lt _
        have hx28 : x2 < 256 := by rw [← hx2]; exact UInt8.toNat_lt _
        have hc0 : ∀ w', Ext w w' → w'.cell? ⟨b, off + n, none⟩ = some (.int .u8 (x0 : Int)) := by
          intro w' e; have := hcs w' e n (by omega); rw [this, vu8, hx0]
        have hc2 : ∀ w', Ext w w' → w'.cell? ⟨b, off + (n + 2 + nm), none⟩ = some (.int .u8 (x2 : Int)) := by
          intro w' e; have := hcs w' e (n+nm+2) (by omega); rw [show off + (n + nm + 2) = off + (n + 2 + nm) by omega] at this; rw [this, vu8, hx2]
        obtain ⟨NM, hNM⟩ : ∃ NM : ByteArray, ⟨((l.drop (n + 2)).take nm).toArray⟩ = NM := ⟨_, rfl⟩
        have hcv : ∀ w' len cap, len = nm → Ext w w' → (convert 45 9 (.slice (some ⟨b, off + (n + 2), none⟩) len cap)).run Try.prog w' = .ok (.string NM) w' := by
          intro w' len cap hlen e
          subst hlen
          have := run_str (hcs w' e) (n + 2) len cap (by omega)
          rwa [hNM] at this
        have HREC : Hid (recAt l n d = ⟨x0, NM, x2, d⟩) := by
          show _ = _; unfold recAt; rw [HNM.out, getD_of_lt (by omega), getD_of_lt (by omega), hx0, hx2, hNM]
        have hNMs : NM.size ≤ 9223372036854775807 := by
          have : NM.size = nm := by rw [← hNM]; show ((l.drop (n+2)).take nm).toArray.size = _; simp; omega
          omega
        clear hx0 hx2 hNM
        obtain ⟨V, hV⟩ : ∃ V, validRec x0 NM x2 d.length = V := ⟨_, rfl⟩
        obtain ⟨E, hE⟩ : ∃ E, encRec x0 NM x2 d = E := ⟨_, rfl⟩
        obtain ⟨q, hq⟩ : ∃ q, (l.drop n).take (nm + 6 + p.length) = q := ⟨_, rfl⟩
        have hVE : V = false → E.length = 0 := by intro hf; rw [← hE, encRec_no (by rw [hV]; exact hf)]; rfl
        have hVE2 : V = true → E.length ≠ 0 := by intro hf; rw [← hE, encRec_length (by rw [hV]; exact hf)]; omega
        have HDEC : Hid (decN l n = if V && (E == q) then some ⟨x0, NM, x2, d⟩ else none) := by
          show _ = _
          rw [decN_spec (by rw [HNM.out, HSZ.out]; omega), HNM.out, HSZ.out, HP.out, hdd, HREC.out]
          have e1 : (⟨x0, NM, x2, d⟩ : DRec).ok = V := hV
          have e2 : (⟨x0, NM, x2, d⟩ : DRec).enc = E := hE
          rw [e1, e2, hq]
        clear hdd
        have hEl := encRec_le x0 NM x2 d
        rw [hE] at hEl
        have HEL : Hid (E.length ≤ 140737488351232) := by show _ ≤ _; omega
        have CN := Lib.hid (fun A4 c4 w h => sEncodeRecord_c x0 NM x2 A4 d c4 w h hNMs)
        rw [hE] at CN
        have CE : Hid (∀ A' c' w' len, len = nm + 6 + p.length → Bs w' A' E c' → Ext w w' → Gives Try.prog 138 #[.slice A' E.length c', .slice (some ⟨b, off + n, none⟩) len (c - n)] w' (.bool (E == q))) := by
          intro A' c' w' len hlen h e
          have hql : q.length = nm + 6 + p.length := by rw [← hq]; simp; omega
          have rq : Bs w' (some ⟨b, off + n, none⟩) q (c - n) := by
            refine ⟨⟨by omega, by omega, fun _ => ⟨b, off + n, rfl, Nat.lt_of_lt_of_le hb e.size, fun w2 e2 i hi => ?_⟩⟩, by omega⟩
            have h5 := hcs w2 (e.trans e2) (n + i) (by omega)
            rw [← Nat.add_assoc] at h5
            rw [h5]
            simp only [← hq, List.getElem_take, List.getElem_drop]
          have := sEqualBytes_c A' (some ⟨b, off + n, none⟩) E q c' (c - n) w' h rq
          rw [hql, ← hlen] at this
          exact this
        have H := Lib.hid h; have HCS := Lib.hid hcs; clear h hcs hV hE hq
        have HH := Lib.hid hVE; have HH2 := Lib.hid hVE2; clear hVE hVE2
        generalize (E == q) = r at *
        go_enter Try.func153, Try.ntmps153
        go_wp2_with (first
          | (go_at_call 104; refine (l1In_c _ _ _ _).mono ?_; rintro _ w1 ⟨rfl, he1⟩; rw [HI.out]; have he1' := ez.trans he1)
          | (go_at_call 171; refine (CR.out _ _ _ _ (by omega) (by omega) (by omega) he1').mono ?_; rintro _ w2 ⟨rfl, he2⟩; have he12 := he1.trans he2; have he12' := ez.trans he12)
          | (go_at_call 172; refine (CU.out _ _ _ _ (by omega) (by omega) (by omega) he12').mono ?_; rintro _ w4 ⟨v4, rfl, ho4, he4⟩; have he34 := he12.trans he4; have he34' := ez.trans he34; obtain ⟨A4, c4, hv4, hr4⟩ := OwnL.rd ho4 HDL.out; subst hv4))
        have hcv' := fun w' len cap hlen (e : Ext w4 w') => hcv w' len cap hlen (he34'.trans e)
        have hc0' := fun w' (e : Ext w4 w') => hc0 w' (he34'.trans e)
        have hc2' := fun w' (e : Ext w4 w') => hc2 w' (he34'.trans e)
        clear hcv hc0 hc2 hc1
        have g1 : (n : Int) < (l.length : Int) := by omega
        have g1' : n < l.length := by omega
        have g3 : (0 : Int) ≤ (n : Int) + 2 := by omega
        have g4 : ((n : Int) + 2).toNat = n + 2 := by omega
        have g5 : (n : Int) + 2 ≤ (n : Int) + 2 + (nm : Int) := by omega
        have g6 : (n : Int) + 2 + (nm : Int) ≤ (c : Int) := by omega
        have g6' : n + 2 + nm ≤ c := by omega
        have g6'' : ¬ c = n + 2 := by omega
        have g8 : (n : Int) + 2 + (nm : Int) < (l.length : Int) := by omega
        have g8' : n + 2 + nm < l.length := by omega
        have g9 : ((n : Int) + 2 + (nm : Int)).toNat = n + 2 + nm := by omega
        have g9' : (0 : Int) ≤ (n : Int) + 2 + (nm : Int) := by omega
        have g10 : IntKind.i64.wrap (x0 : Int) = (x0 : Int) := IntWalk.i64_in _ (by omega)
        have g11 : IntKind.i64.wrap (x2 : Int) = (x2 : Int) := IntWalk.i64_in _ (by omega)
        go_region_held3 (fun w' => Ext w4 w') (first | assumption | exact Ext_drew (Ext.refl _) | exact Ext_drew (Ext_alloc _ (Ext.refl _)) | exact Ext_alloc _ (Ext_drew (Ext.refl _)) | exact Ext.trans (by assumption) (by assumption)) (first | fail)
        have ebx := Ext_alloc (.cells #[.int .i64 x0, .string NM, .int .i64 x2, .slice A4 d.length c4] 138) (Ext.refl w4)
        generalize hw5 : (w4.alloc (.cells #[.int .i64 x0, .string NM, .int .i64 x2, .slice A4 d.length c4] 138)).drew = w5
        have e5 : Ext (w4.alloc (.cells #[.int .i64 x0, .string NM, .int .i64 x2, .slice A4 d.length c4] 138)) w5 := by rw [← hw5]; exact Ext_drew (Ext.refl _)
        clear hw5
        have D := fun w' (e : Ext w5 w') => boxed (e5.trans e)
        have e45 := ebx.trans e5
        have r5 := hr4.ext e45
        have o5 := OwnL.ext ho4 e45
        have z5 := he34.trans e45
        have hs3 : w.heap.size < w2.heap.size := by have := he12.size; simp at this; omega
        have HEE : Hid (Ext w w2) := he12'
        have EW : Hid (Ext w w5) := ez.trans z5
        have B5 := fun w' (e : Ext w5 w') => B w' (z5.trans e)
        have F5 := fun w' (e : Ext w5 w') => F w' (z5.trans e)
        have KN5 := Lib.hid (fun w6 (e : Ext w5 w6) => KN.out w6 (z5.trans e))
        clear hcv' hc0' hc2' ho4 hr4 B F KN he1 he2
        unfold vrec at CN
        cases V
        · have HD2 : Hid (decN l n = none) := HDEC.out
          have HE0 : E.length = 0 := HH.out rfl
          have HE0' := Lib.hid HE0; clear HE0 HDEC HH HH2
          go_wp2_with (first
            | (go_at_call 173; refine (CN.out _ _ _ (r5.ext (by first | exact Ext.refl _ | assumption))).mono ?_; rintro _ w7 ⟨v7, rfl, ho7, he7⟩; obtain ⟨A7, c7, hv7, r7⟩ := OwnL.rd ho7 HEL.out; rw [HE0'.out] at hv7; subst hv7))
          obtain ⟨s0, s1, s2, s3⟩ := stored4 (B5 _ he7)
          exact bodyPost_ret (v := .tuple #[.agg #[.int .i64 0, .string ⟨#[]⟩, .int .i64 0, .slice none 0 0], .int .i64 n, .bool false]) (by simp [results, Try.results153, go_sem, s0, s1, s2, s3]) rfl (KN5.out _ he7 HD2.out)
        · have HE0 : ((E.length : Int) == 0) = false := beq_eq_false_iff_ne.2 (by have := HH2.out rfl; omega)
          have HE0b : ¬ E.length = 0 := HH2.out rfl
          clear HH HH2
          cases r
          · have HD2 : Hid (decN l n = none) := HDEC.out
            clear HDEC
            go_wp2_with (first
              | (go_at_call 173; refine (CN.out _ _ _ (r5.ext (by first | exact Ext.refl _ | assumption))).mono ?_; rintro _ w7 ⟨v7, rfl, ho7, he7⟩; obtain ⟨A7, c7, hv7, r7⟩ := OwnL.rd ho7 HEL.out; subst hv7)
              | (go_at_call 138; refine (CE.out _ _ _ _ (by omega) r7 (EW.out.trans he7)).mono ?_; rintro _ w8 ⟨rfl, he8⟩; have e8 := he7.trans he8))
            obtain ⟨s0, s1, s2, s3⟩ := stored4 (B5 _ e8)
            exact bodyPost_ret (v := .tuple #[.agg #[.int .i64 0, .string ⟨#[]⟩, .int .i64 0, .slice none 0 0], .int .i64 n, .bool false]) (by simp [results, Try.results153, go_sem, s0, s1, s2, s3]) rfl (KN5.out _ e8 HD2.out)
          · have HD2 : Hid (decN l n = some ⟨x0, NM, x2, d⟩) := HDEC.out
            clear HDEC
            go_wp2_with (first
              | (go_at_call 173; refine (CN.out _ _ _ (r5.ext (by first | exact Ext.refl _ | assumption))).mono ?_; rintro _ w7 ⟨v7, rfl, ho7, he7⟩; obtain ⟨A7, c7, hv7, r7⟩ := OwnL.rd ho7 HEL.out; subst hv7)
              | (go_at_call 138; refine (CE.out _ _ _ _ (by omega) r7 (EW.out.trans he7)).mono ?_; rintro _ w8 ⟨rfl, he8⟩; have e8 := he7.trans he8))
            obtain ⟨s0, s1, s2, s3⟩ := stored4 (B5 _ e8)
            refine bodyPost_ret (v := .tuple #[.agg #[.int .i64 x0, .string NM, .int .i64 x2, .slice A4 d.length c4], .int .i64 ((n : Int) + 2 + (nm : Int) + 3 + (p.length : Int) + 1), .bool true]) (by simp [results, Try.results153, go_sem, s0, s1, s2, s3]) rfl ?_
            obtain ⟨q1, q2⟩ := dec_yes HD2.out
            rw [q1, q2, HNM.out, HSZ.out]
            refine ⟨.slice A4 d.length c4, ?_, ?_, ?_⟩
            · rw [show ((n + nm + 6 + p.length : Nat) : Int) = (n : Int) + 2 + (nm : Int) + 3 + (p.length : Int) + 1 by omega]
              rfl
            · exact OwnL.lower (ownsRow_setCell_below (ownsRow_setCell_below (ownsRow_setCell_below (ownsRow_setCell_below (OwnL.ext o5 e8) hs3 _) hs3 _) hs3 _) hs3 _) HEE.out
            · exact ((((EW.out.trans e8).setCell (Nat.le_refl _) _).setCell (Nat.le_refl _) _).setCell (Nat.le_refl _) _).setCell (Nat.le_refl _) _
end Go.Proofs.Ytlaejcacembjiaa

/- Plain laws of reading records one behind the other: no program in sight. -/
namespace Go.Proofs.Ytlaejcacembjiaa

/-- the length of the encoding that begins at an index -/
def sizeAt (b : List UInt8) (a : Nat) : Nat := nmAt b a + 6 + szAt b a
def readF : Nat → List UInt8 → Nat → List DRec × Nat
  | 0, _, a => ([], a)
  | f + 1, b, a => match decN b a with
    | none => ([], a)
    | some r => (r :: (readF f b (a + sizeAt b a)).1, (readF f b (a + sizeAt b a)).2)
theorem decN_out {b : List UInt8} {a : Nat} (h : b.length < a + 6) : decN b a = none := by
  cases hd : decN b a with
  | none => rfl
  | some r => have := (decN_some hd).1; omega
theorem decN_fits {b : List UInt8} {a : Nat} {r : DRec} (h : decN b a = some r) : a + sizeAt b a ≤ b.length ∧ 6 ≤ sizeAt b a := by
  have := (decN_some h).1; unfold sizeAt; omega
theorem readF_fuel (b : List UInt8) : ∀ f g a, b.length - a ≤ f → b.length - a ≤ g → readF f b a = readF g b a := by
  intro f
  induction f with
  | zero =>
    intro g a h _
    cases g with
    | zero => rfl
    | succ g => rw [readF, readF, decN_out (by omega)]
  | succ f ih =>
    intro g a h1 h2
    cases g with
    | zero => rw [readF, readF, decN_out (by omega)]
    | succ g =>
      rw [readF, readF]
      cases hd : decN b a with
      | none => rfl
      | some r =>
        have := decN_fits hd
        simp only
        rw [ih g (a + sizeAt b a) (by omega) (by omega)]
/-- the records from an index on; where the reading stops -/
def recs (b : List UInt8) (a : Nat) : List DRec := (readF b.length b a).1
def stop (b : List UInt8) (a : Nat) : Nat := (readF b.length b a).2
theorem read_none {b : List UInt8} {a : Nat} (h : decN b a = none) : recs b a = [] ∧ stop b a = a := by
  unfold recs stop
  cases b.length with
  | zero => exact ⟨rfl, rfl⟩
  | succ n => rw [readF, h]; exact ⟨rfl, rfl⟩
theorem read_some {b : List UInt8} {a : Nat} {r : DRec} (h : decN b a = some r) : recs b a = r :: recs b (a + sizeAt b a) ∧ stop b a = stop b (a + sizeAt b a) := by
  have hf := decN_fits h
  unfold recs stop
  rw [readF_fuel b b.length (b.length + 1) a (by omega) (by omega), readF, h]
  exact ⟨rfl, rfl⟩
theorem readF_le (b : List UInt8) : ∀ f a, a ≤ b.length → (readF f b a).2 ≤ b.length ∧ a ≤ (readF f b a).2 ∧ 6 * (readF f b a).1.length + a ≤ (readF f b a).2 := by
  intro f
  induction f with
  | zero => intro a h; exact ⟨h, Nat.le_refl _, by simp [readF]⟩
  | succ f ih =>
    intro a h
    rw [readF]
    cases hd : decN b a with
    | none => exact ⟨h, Nat.le_refl _, by simp⟩
    | some r =>
      have hf := decN_fits hd
      have := ih (a + sizeAt b a) (by omega)
      simp only [List.length_cons]
      omega
theorem stop_le {b : List UInt8} {a : Nat} (h : a ≤ b.length) : stop b a ≤ b.length ∧ a ≤ stop b a := ⟨(readF_le b _ a h).1, (readF_le b _ a h).2.1⟩
theorem recs_le {b : List UInt8} {a : Nat} (h : a ≤ b.length) : 6 * (recs b a).length + a ≤ b.length := by
  have := readF_le b b.length a h; unfold recs; omega

theorem take_drop_take {α : Type} (b : List α) {s k m : Nat} (h : k + m ≤ s) : ((b.take s).drop k).take m = (b.drop k).take m := by
  rw [List.drop_take, List.take_take, Nat.min_eq_left (by omega)]
theorem getD_take {b : List UInt8} {s i : Nat} (h : i < s) : (b.take s).getD i 0 = b.getD i 0 := by
  simp [List.getD, List.getElem?_take, h]
theorem nmAt_take {b : List UInt8} {s a : Nat} (h : a + 1 < s) : nmAt (b.take s) a = nmAt b a := by unfold nmAt; rw [getD_take h]
theorem szAt_take {b : List UInt8} {s a : Nat} (h : a + nmAt b a + 4 < s) : szAt (b.take s) a = szAt b a := by
  unfold szAt; rw [nmAt_take (by omega), getD_take (by omega), getD_take (by omega)]
theorem decN_take_eq {b : List UInt8} {s a : Nat} (hs : s ≤ b.length) (h : a + sizeAt b a ≤ s) : decN (b.take s) a = decN b a := by
  unfold sizeAt at h
  have hl : (b.take s).length = s := by rw [List.length_take]; omega
  have e1 : nmAt (b.take s) a = nmAt b a := nmAt_take (by omega)
  have e2 : szAt (b.take s) a = szAt b a := szAt_take (by omega)
  have e3 : ∀ d, recAt (b.take s) a d = recAt b a d := by
    intro d; unfold recAt
    rw [e1, getD_take (by omega), getD_take (by omega), take_drop_take b (by omega)]
  unfold decN
  rw [e1, e2, hl, if_neg (by omega), if_neg (by omega), take_drop_take b (by omega), take_drop_take b (by omega)]
  simp only [e3]
theorem decN_take_some {b : List UInt8} {s a : Nat} {r : DRec} (hs : s ≤ b.length) (h : decN (b.take s) a = some r) : decN b a = some r ∧ a + sizeAt b a ≤ s := by
  have hf := (decN_some h).1
  have hl : (b.take s).length = s := by rw [List.length_take]; omega
  rw [hl] at hf
  have e1 : nmAt (b.take s) a = nmAt b a := nmAt_take (by omega)
  rw [e1] at hf
  have e2 : szAt (b.take s) a = szAt b a := szAt_take (by omega)
  rw [e2] at hf
  have hz : a + sizeAt b a ≤ s := by unfold sizeAt; omega
  exact ⟨(decN_take_eq hs hz).symm.trans h, hz⟩
theorem decN_take_none {b : List UInt8} {s a : Nat} (hs : s ≤ b.length) (h : decN b a = none ∨ s < a + sizeAt b a) : decN (b.take s) a = none := by
  cases hd : decN (b.take s) a with
  | none => rfl
  | some r =>
    obtain ⟨h1, h2⟩ := decN_take_some hs hd
    rcases h with h | h
    · rw [h] at h1; cases h1
    · omega

/-- a log is valid -/
def validLog (b : List UInt8) (s : Int) : Bool := decide (0 ≤ s) && decide (s ≤ b.length) && (stop b 0 == b.length) && (stop (b.take s.toNat) 0 == s.toNat)
/-- the bytes that are stored end with a record -/
def endsAt (b : List UInt8) (s : Nat) : Bool := stop (b.take s) 0 == s
/-- what the scan of a log knows at an index -/
def Scan (b : List UInt8) (s a : Nat) (e : Bool) : Prop :=
  (e = true ∧ endsAt b s = true) ∨ (e = false ∧ a < s ∧ stop (b.take s) a = stop (b.take s) 0) ∨ (e = false ∧ s < a ∧ endsAt b s = false)
theorem Scan.start (b : List UInt8) (s : Nat) : Scan b s 0 (s == 0) := by
  by_cases h : s = 0
  · subst h
    refine .inl ⟨rfl, ?_⟩
    unfold endsAt
    rw [List.take_zero, (read_none (decN_out (by simp))).2]; rfl
  · exact .inr (.inl ⟨by simpa using h, by omega, rfl⟩)
theorem Scan.step {b : List UInt8} {s a : Nat} {e : Bool} {r : DRec} (hs : s ≤ b.length) (hd : decN b a = some r) (h : Scan b s a e) : Scan b s (a + sizeAt b a) (e || (a + sizeAt b a == s)) := by
  have hf := decN_fits hd
  rcases h with ⟨rfl, h⟩ | ⟨rfl, h1, h2⟩ | ⟨rfl, h1, h2⟩
  · exact .inl ⟨rfl, h⟩
  · by_cases hle : a + sizeAt b a ≤ s
    · have hd' := (decN_take_eq hs hle).trans hd
      have hz : sizeAt (b.take s) a = sizeAt b a := by
        unfold sizeAt at hle ⊢
        rw [nmAt_take (by omega), szAt_take (by omega)]
      have h3 := (read_some hd').2
      rw [hz] at h3
      by_cases he : a + sizeAt b a = s
      · rw [he]
        refine .inl ⟨by simp, ?_⟩
        unfold endsAt
        rw [← h2, h3, he, (read_none (decN_out (by rw [List.length_take]; omega))).2]
        simp
      · exact .inr (.inl ⟨by simpa using he, by omega, by rw [← h3]; exact h2⟩)
    · refine .inr (.inr ⟨by simp; omega, by omega, ?_⟩)
      unfold endsAt
      rw [← h2, (read_none (decN_take_none hs (.inr (by omega)))).2]
      simp; omega
  · exact .inr (.inr ⟨by simp; omega, by omega, h2⟩)
theorem Scan.done {b : List UInt8} {s : Nat} {e : Bool} (hs : s ≤ b.length) (h : Scan b s b.length e) : e = endsAt b s := by
  rcases h with ⟨rfl, h⟩ | ⟨rfl, h1, _⟩ | ⟨rfl, _, h⟩
  · exact h.symm
  · omega
  · exact h.symm
theorem validLog_eq {b : List UInt8} {s : Nat} (hs : s ≤ b.length) : validLog b (s : Int) = ((stop b 0 == b.length) && endsAt b s) := by
  unfold validLog endsAt
  rw [Int.toNat_natCast]
  have h1 : decide ((0 : Int) ≤ (s : Int)) = true := by simp
  have h2 : decide ((s : Int) ≤ (b.length : Int)) = true := by simp; omega
  rw [h1, h2]; simp
theorem validLog_out {b : List UInt8} {s : Int} (h : s < 0 ∨ (b.length : Int) < s) : validLog b s = false := by
  unfold validLog
  rcases h with h | h
  · have h1 : decide ((0 : Int) ≤ s) = false := by simp; omega
    rw [h1]; rfl
  · have h1 : decide (s ≤ (b.length : Int)) = false := by simp; omega
    rw [h1]; simp
theorem validLog_facts {b : List UInt8} {s : Int} (h : validLog b s = true) : 0 ≤ s ∧ s ≤ b.length ∧ stop b 0 = b.length ∧ stop (b.take s.toNat) 0 = s.toNat := by
  unfold validLog at h
  simp only [Bool.and_eq_true, decide_eq_true_eq, beq_iff_eq] at h
  exact ⟨h.1.1.1, h.1.1.2, h.1.2, h.2⟩
end Go.Proofs.Ytlaejcacembjiaa

/- The laws' marks on records and logs by value. -/
namespace Go.Proofs.Ytlaejcacembjiaa
open Go.RowKit Go.Sort

theorem Own.alloc' {e : TypeId} {size : Nat} {w0 w : World} {v : Value} {n : Nat} {xs : List Value} (h : Own e size w0 w v n xs) (o : Obj) : Own e size w0 (w.alloc o) v n xs := World.ownsRow.alloc h o

set_option maxHeartbeats 400000 in
theorem markLog_c (st : Int) (A : Option Addr) (n c : Nat) (k : Int) (xs : List Value) (w0 w : World) (ho : Own 5 1 w0 w (.slice A n c) n xs) (hk : 0 ≤ k) (hk2 : k + n ≤ 1099511627776) :
    Calls Try.prog 76 #[(vlog (.slice A n c) st), .int .i64 k] w fun e w' => e = .returned (.int .i64 (k + n)) ∧ Own 5 1 w0 w' (.slice A n c) n ((List.range n).map (mk8 k)) ∧ w.grownBy w' (Value.slice A n c).ownBlock := by
  have C := Lib.hid (markByteS_c A n c k xs w0 (w.alloc (.cells #[.slice A n c, .int .i64 st] 51)) (ho.alloc' _) hk hk2)
  have G := Lib.hid (World.grownBy_alloc w (.cells #[.slice A n c, .int .i64 st] 51) (Value.slice A n c).ownBlock)
  clear ho
  unfold vlog at *
  go_enter Try.func76, Try.ntmps76
  go_wp2_with fail
  refine C.out.mono ?_; rintro _ w1 ⟨rfl, ho1, hg1⟩
  have H1 := Lib.hid ho1; have H3 := Lib.hid hg1
  clear ho1 hg1
  go_wp2
  go_ret
  exact ⟨rfl, H1.out, G.out.trans H3.out⟩

set_option maxHeartbeats 400000 in
theorem heldLog_c (st : Int) (A : Option Addr) (n c : Nat) (k : Int) (w : World) (h : Rd (mk8 k) w A (List.range n) c) (hk : 0 ≤ k) (hk2 : k + n ≤ 1099511627776) :
    Gives Try.prog 77 #[(vlog (.slice A n c) st), .int .i64 k] w (.int .i64 (k + n)) := by
  have C := Lib.hid (fun w h => heldByteS_c A n c k w h hk hk2)
  unfold vlog at *
  go_enter Try.func77, Try.ntmps77
  go_wp2_with fail
  refine (C.out _ (h.ext (Ext_alloc _ (Ext.refl w)))).mono ?_; rintro _ w1 ⟨rfl, he1⟩
  go_wp2
  go_ret
  exact ⟨rfl, (Ext_alloc _ (Ext.refl w)).trans he1⟩
end Go.Proofs.Ytlaejcacembjiaa

/- The walk of the law on DecodeRecord. -/
namespace Go.Proofs.Ytlaejcacembjiaa
open Go.RowKit Go.Sort

theorem heap_lt {w : World} {g : Nat} {o : Obj} (h : w.heap[g]? = some o) : g < w.heap.size := (Array.getElem?_eq_some_iff.1 h).1
theorem heap_ext {w w' : World} {g : Nat} {o : Obj} (h : w.heap[g]? = some o) (e : Ext w w') : w'.heap[g]? = some o := (Below.block e g (heap_lt h)).trans h
theorem heap_grown {w w' : World} {g : Nat} {o : Obj} {row : Option Nat} (h : w.heap[g]? = some o) (hg : w.grownBy w' row) (hne : some g ≠ row) : w'.heap[g]? = some o := (hg.block g (heap_lt h) hne).trans h
theorem heap_new (w : World) (o : Obj) : (w.alloc o).heap[w.heap.size]? = some o := heap_alloc_new w o
theorem boxed_at {w w' : World} {g : Nat} {cs : Array Value} {T : TypeId} (h : w.heap[g]? = some (.cells cs T (0, 0))) (e : Ext w w') (i : Nat) : w'.cell? ⟨g, i, none⟩ = cs[i]? := cell_of_row w' g i cs T (0, 0) (heap_ext h e)
theorem OwnL.ne {α : Type} {f : α → Value} {e : TypeId} {w0 w : World} {v : Value} {l : List α} (h : OwnL f e w0 w v l) {g : Nat} (hg : w.heap.size ≤ g) : some g ≠ v.ownBlock := by
  intro he; have := (World.ownsRow.lt h g he.symm).2; omega

theorem dec_len (b : List UInt8) (a : Int) : ((dec b a).getD .zero).l.length ≤ 400 := by
  unfold dec
  split
  · simp [DRec.zero]
  · cases hd : decN b a.toNat with
    | none => simp [DRec.zero]
    | some r => have := validRec_facts (decN_some hd).2.1; simp only [Option.getD_some]; omega

end Go.Proofs.Ytlaejcacembjiaa

/- ReadRecords and CountRecords of the program and of the reference. -/
namespace Go.Proofs.Ytlaejcacembjiaa
open Go.RowKit Go.Sort

theorem E_rec : Elem Try.prog 132 138 4 56 (.agg #[.int .i64 0, .string ⟨#[]⟩, .int .i64 0, .slice none 0 0]) := ⟨Try.underlying132, by kernel_rfl, rfl, by omega⟩
/-- the cells of records, each with its data's slice -/
def rcells (p : DRec × Value) : List Value := [.int .i64 p.1.k, .string p.1.nm, .int .i64 p.1.ver, p.2]
theorem rcells_len (ps : List (DRec × Value)) : (ps.flatMap rcells).length = ps.length * 4 := by
  induction ps with
  | nil => rfl
  | cons p t ih => rw [List.flatMap_cons, List.length_append, ih, List.length_cons]; simp [rcells]; omega
/-- no two of the values lie in one block -/
def Apart (vs : List Value) : Prop := vs.Pairwise fun a b => ∀ g, a.ownBlock = some g → b.ownBlock ≠ some g
/-- records that the call since w0 made, each with data of its own -/
def OwnR (w0 w : World) (v : Value) (ps : List (DRec × Value)) : Prop :=
  Own 138 4 w0 w v ps.length (ps.flatMap rcells) ∧ (∀ p ∈ ps, OwnL vu8 5 w0 w p.2 p.1.l) ∧ Apart (v :: ps.map Prod.snd)
theorem OwnR.ext {w0 w w' : World} {v : Value} {ps : List (DRec × Value)} (h : OwnR w0 w v ps) (e : Ext w w') : OwnR w0 w' v ps :=
  ⟨Own.ext h.1 e, fun p hp => OwnL.ext (h.2.1 p hp) e, h.2.2⟩
theorem OwnR.lower {w0 w1 w : World} {v : Value} {ps : List (DRec × Value)} (h : OwnR w1 w v ps) (e : Ext w0 w1) : OwnR w0 w v ps :=
  ⟨World.ownsRow.lower h.1 e.size, fun p hp => OwnL.lower (h.2.1 p hp) e, h.2.2⟩
theorem OwnR.shape {w0 w : World} {v : Value} {ps : List (DRec × Value)} (h : OwnR w0 w v ps) : ∃ A c, v = .slice A ps.length c := by
  rcases h.1.2 with ⟨rfl, hn⟩ | ⟨g, cap, _, rfl, _⟩
  · exact ⟨none, 0, by rw [hn]⟩
  · exact ⟨_, _, rfl⟩
/-- a row behind an append: the same block, or the newest -/
theorem OwnR.push {w0 w1 w2 : World} {v v' : Value} {ps : List (DRec × Value)} {p : DRec × Value} (h : OwnR w0 w1 v ps) (hp : OwnL vu8 5 w0 w1 p.2 p.1.l)
    (hnew : ∀ q ∈ ps, ∀ g, q.2.ownBlock = some g → p.2.ownBlock ≠ some g) (hv : ∀ g, v.ownBlock = some g → p.2.ownBlock ≠ some g)
    (ho : Own 138 4 w0 w2 v' (ps.length + 1) (ps.flatMap rcells ++ rcells p)) (hb : v'.ownBlock = v.ownBlock ∨ v'.ownBlock = some w1.heap.size) (hg : w1.grownBy w2 v.ownBlock) : OwnR w0 w2 v' (ps ++ [p]) := by
  have hap := h.2.2
  unfold Apart at hap
  rw [List.pairwise_cons] at hap
  refine ⟨by simpa [List.flatMap_append, List.flatMap_cons] using ho, ?_, ?_⟩
  · intro q hq
    have hlast : ∀ q : DRec × Value, OwnL vu8 5 w0 w1 q.2 q.1.l → (∀ g, v.ownBlock = some g → q.2.ownBlock ≠ some g) → OwnL vu8 5 w0 w2 q.2 q.1.l := by
      intro q hq hne
      refine World.ownsRow.kept hq hg ?_
      cases hb' : q.2.ownBlock with
      | none => exact .inl rfl
      | some g => right; intro hvv; exact hne g hvv.symm hb'
    rcases List.mem_append.1 hq with hq | hq
    · exact hlast q (h.2.1 q hq) (fun g hg => hap.1 q.2 (List.mem_map_of_mem hq) g hg)
    · rw [List.mem_singleton.1 hq]; exact hlast p hp hv
  · have hlt : ∀ q ∈ ps ++ [p], ∀ g, q.2.ownBlock = some g → g < w1.heap.size := by
      intro q hq g hg'
      rcases List.mem_append.1 hq with hq | hq
      · exact OwnL.block (h.2.1 q hq) g hg'
      · rw [List.mem_singleton.1 hq] at hg'; exact OwnL.block hp g hg'
    have hne : ∀ q ∈ ps ++ [p], ∀ g, v.ownBlock = some g → q.2.ownBlock ≠ some g := by
      intro q hq g hg'
      rcases List.mem_append.1 hq with hq | hq
      · exact hap.1 q.2 (List.mem_map_of_mem hq) g hg'
      · rw [List.mem_singleton.1 hq]; exact hv g hg'
    unfold Apart
    rw [List.pairwise_cons, List.map_append, List.pairwise_append]
    refine ⟨?_, hap.2, by simp, ?_⟩
    · intro u hu g hg' hu'
      rw [← List.map_append] at hu
      obtain ⟨q, hq, rfl⟩ := List.mem_map.1 hu
      rcases hb with hb | hb
      · rw [hb] at hg'; exact hne q hq g hg' hu'
      · rw [hb] at hg'; injection hg' with hg'; subst hg'; exact absurd (hlt q hq _ hu') (Nat.lt_irrefl _)
    · intro u hu u' hu' g hg' hg''
      obtain ⟨q, hq, rfl⟩ := List.mem_map.1 hu
      have : u' = p.2 := by simpa using hu'
      subst this
      exact hnew q hq g hg' hg''

section
variable {P : Program} {ops : Array Oper} {rest : List Oper} {o : Oper} {a : Act} {Q : Exit → Act → World → Prop}
/-- append(s, x1, .., xm), with what becomes of the block -/
theorem wpList_appB (hgd : o.guard = none) (s x : Operand) (t : TypeId) (ho : o.op = .call { callee := .builtin .append, args := #[s, x], argTypes := #[t, t] })
    {e : TypeId} {size bytes : Nat} {z : Value} (hE : Elem P t e size bytes z) (w0 w : World) (v : Value) (n : Nat) (xs : List Value) (hs : a.eval s = v) (hown : Own e size w0 w v n xs)
    (he : Ext w0 w) (news : List Value) (cs : Array Value) (hcs : cs = news.toArray) (m c g : Nat) (hx : a.eval x = .slice (some ⟨g, 0, none⟩) m c) (hgw : g = w.heap.size) (hl : news.length = m * size) (h1 : ∀ u ∈ news, u.oneCell' = true)
    (hm : n + m ≤ maxLen) (hb : (n + m) * bytes ≤ 140737488355328)
    (h : ∀ v' w', Own e size w0 w' v' (n + m) (xs ++ news) → Ext w0 w' → (v'.ownBlock = v.ownBlock ∨ v'.ownBlock = some (w.alloc (.cells cs e)).heap.size) → (w.alloc (.cells cs e)).grownBy w' v.ownBlock → wpList P ops Q rest (a.put o.dst v') w') :
    wpList P ops Q (o :: rest) a (w.alloc (.cells cs e)) := by
  subst hcs; subst hgw
  refine wpList_app_any hgd s x t ho hE w0 _ v n xs hs (World.ownsRow.alloc hown _) (Ext_alloc _ he) news (some ⟨w.heap.size, 0, none⟩) m c hx hl (fun _ => ⟨_, rfl, fun j u hj => ?_⟩) h1 hm hb h
  rw [World.cell?_alloc_at']; exact hj
end

set_option maxRecDepth 100000 in
set_option maxHeartbeats 2000000 in
theorem iReadRecords_c (A : Option Addr) (l : List UInt8) (c : Nat) (w : World) (h : Bs w A l c) (hL : l.length ≤ 1099511627776) :
    Calls Try.prog 125 #[.slice A l.length c] w fun e w' => ∃ v ps, e = .returned (.tuple #[v, .int .i64 (stop l 0 : Nat)]) ∧ ps.map Prod.fst = recs l 0 ∧ OwnR w w' v ps ∧ Ext w w' := by
  have hcnt := recs_le (b := l) (a := 0) (by omega)
  have H := Lib.hid h; clear h
  go_enter Try.func125, Try.ntmps125
  go_wp2
  go_loopw [4, 5] (fun t i wr => ∃ (a : Nat) (ps : List (DRec × Value)), a ≤ l.length ∧ i = .int .i64 a ∧ OwnR w wr t ps ∧ Hid (ps.map Prod.fst ++ recs l a = recs l 0) ∧ Hid (stop l a = stop l 0) ∧ Ext w wr) (fun _ i _ => l.length - (intOf i).toNat)
  case atStart => exact ⟨0, [], by omega, rfl, ⟨Own.empty (Ext.refl _), by simp, by simp [Apart]⟩, by simp [Hid], rfl, Ext_alloc _ (Ext.refl _)⟩
  case round =>
    obtain ⟨a, ps, ha, rfl, ho, hs, ht, he⟩ := hrel
    have hps : ps.length ≤ l.length := by have := congrArg List.length hs.out; rw [List.length_append, List.length_map] at this; omega
    have hwf : (Lit.int .i64 (a : Int)).wf = true := WalkArith.wf_i64 (by omega)
    have CD := Lib.hid (fun w h => iDecodeRecord_c A l c a w h hwf)
    unfold DecOut at CD
    cases hd : decN l a with
    | none =>
      obtain ⟨q1, q2⟩ := dec_no hd
      obtain ⟨q3, q4⟩ := read_none hd
      rw [q1, q2] at CD
      have hs' : Hid (ps.map Prod.fst = recs l 0) := by have := hs.out; rw [q3, List.append_nil] at this; exact this
      have ht' : Hid (a = stop l 0) := by have := ht.out; rw [q4] at this; exact this
      clear q1 q2 q3 q4 hs ht hd
      unfold vrec DRec.zero at CD
      go_wp2_with (first
        | (go_at_call 157; refine (CD.out _ (H.out.ext he)).mono ?_; rintro _ w1 ⟨v1, rfl, ho1, he1⟩; obtain ⟨A1, c1, hv1, _⟩ := OwnL.rd ho1 (by simp); subst hv1))
      go_ret2
      refine ⟨u4, ps, ?_, hs'.out, (ho.ext he1).ext (Ext_alloc _ (Ext.refl _)), Ext_alloc _ (he.trans he1)⟩
      rw [← ht'.out]; rfl
    | some r =>
      obtain ⟨q1, q2⟩ := dec_yes hd
      obtain ⟨q3, q4⟩ := read_some hd
      have hf := decN_fits hd
      have hrl : r.l.length ≤ 400 := by have := validRec_facts (decN_some hd).2.1; omega
      rw [q1, q2] at CD
      obtain ⟨a', ha'⟩ : ∃ a', a + sizeAt l a = a' := ⟨_, rfl⟩
      rw [ha'] at q3 q4
      rw [show a + nmAt l a + 6 + szAt l a = a' by rw [← ha']; unfold sizeAt; omega] at CD
      have ha2 : a' ≤ l.length := by omega
      have ha3 : a < a' := by omega
      obtain ⟨k, nm, ver, d⟩ := r
      dsimp only [Option.getD_some] at CD hrl
      have hs' : Hid ((ps.map Prod.fst ++ [⟨k, nm, ver, d⟩]) ++ recs l a' = recs l 0) := by have := hs.out; rw [q3] at this; show _ = _; rw [← this]; simp
      have ht' : Hid (stop l a' = stop l 0) := by have := ht.out; rw [q4] at this; exact this
      clear q1 q2 q3 q4 hs ht hd ha' hf
      have HB : Hid ((ps.length + 1) * 56 ≤ 140737488355328) := by show _ ≤ _; omega
      have HM : Hid (ps.length + 1 ≤ maxLen) := by show _ ≤ _; simp only [maxLen]; omega
      unfold vrec at CD
      go_wp2_with (first
        | (go_at_call 157; refine (CD.out _ (H.out.ext he)).mono ?_; rintro _ w1 ⟨v1, rfl, ho1, he1⟩; obtain ⟨A1, c1, hv1, _⟩ := OwnL.rd ho1 (by omega); subst hv1; have ex := Ext_alloc (.cells #[.int .i64 k, .string nm, .int .i64 ver, .slice A1 d.length c1] 138) (Ext.refl w1); have hor := (ho.ext he1).ext ex)
        | (at_builtin; refine wpList_appB rfl (.tmp 21) (.tmp 23) _ rfl E_rec w _ _ ps.length _ rfl hor.1 ((he.trans he1).trans ex) (rcells (⟨k, nm, ver, d⟩, .slice A1 d.length c1)) _ rfl 1 _ _ rfl (by simp) rfl (by intro u hu; simp [rcells] at hu; rcases hu with rfl | rfl | rfl | rfl <;> rfl) HM.out HB.out ?_; intro v2 w2 ho2 he2 hb2 hg2))
      have hfin : OwnR w w2 v2 (ps ++ [(⟨k, nm, ver, d⟩, .slice A1 d.length c1)]) := by
        have hx := Ext_alloc (.cells #[.int .i64 k, .string nm, .int .i64 ver, .slice A1 d.length c1] 138) ex
        refine OwnR.push (hor.ext (Ext_alloc _ (Ext.refl _))) (p := (⟨k, nm, ver, d⟩, .slice A1 d.length c1)) (OwnL.ext (OwnL.lower ho1 he) hx) ?_ ?_ ho2 hb2 hg2
        · intro q hq g hg hg'
          have h1 := OwnL.block (ho.2.1 q hq) g hg
          have h2 := (World.ownsRow.lt ho1 g hg').1
          omega
        · intro g hg hg'
          have h1 := (World.ownsRow.lt ho.1 g hg).2
          have h2 := (World.ownsRow.lt ho1 g hg').1
          omega
      go_roundw
      case rel => exact ⟨a', ps ++ [(⟨k, nm, ver, d⟩, .slice A1 d.length c1)], by omega, by go_num, hfin, by simpa [Hid] using hs'.out, ht', he2⟩
      case measure => simp [intOf]; omega

set_option maxRecDepth 100000 in
set_option maxHeartbeats 2000000 in
theorem sReadRecords_c (A : Option Addr) (l : List UInt8) (c : Nat) (w : World) (h : Bs w A l c) (hL : l.length ≤ 1099511627776) :
    Calls Try.prog 120 #[.slice A l.length c] w fun e w' => ∃ v ps, e = .returned (.tuple #[v, .int .i64 (stop l 0 : Nat)]) ∧ ps.map Prod.fst = recs l 0 ∧ OwnR w w' v ps ∧ Ext w w' := by
  have hcnt := recs_le (b := l) (a := 0) (by omega)
  have H := Lib.hid h; clear h
  go_enter Try.func120, Try.ntmps120
  go_wp2
  go_loopw [4, 5] (fun t i wr => ∃ (a : Nat) (ps : List (DRec × Value)), a ≤ l.length ∧ i = .int .i64 a ∧ OwnR w wr t ps ∧ Hid (ps.map Prod.fst ++ recs l a = recs l 0) ∧ Hid (stop l a = stop l 0) ∧ Ext w wr) (fun _ i _ => l.length - (intOf i).toNat)
  case atStart => exact ⟨0, [], by omega, rfl, ⟨Own.empty (Ext.refl _), by simp, by simp [Apart]⟩, by simp [Hid], rfl, Ext_alloc _ (Ext.refl _)⟩
  case round =>
    obtain ⟨a, ps, ha, rfl, ho, hs, ht, he⟩ := hrel
    have hps : ps.length ≤ l.length := by have := congrArg List.length hs.out; rw [List.length_append, List.length_map] at this; omega
    have hwf : (Lit.int .i64 (a : Int)).wf = true := WalkArith.wf_i64 (by omega)
    have CD := Lib.hid (fun w h => sDecodeRecord_c A l c a w h hwf)
    unfold DecOut at CD
    cases hd : decN l a with
    | none =>
      obtain ⟨q1, q2⟩ := dec_no hd
      obtain ⟨q3, q4⟩ := read_none hd
      rw [q1, q2] at CD
      have hs' : Hid (ps.map Prod.fst = recs l 0) := by have := hs.out; rw [q3, List.append_nil] at this; exact this
      have ht' : Hid (a = stop l 0) := by have := ht.out; rw [q4] at this; exact this
      clear q1 q2 q3 q4 hs ht hd
      unfold vrec DRec.zero at CD
      go_wp2_with (first
        | (go_at_call 153; refine (CD.out _ (H.out.ext he)).mono ?_; rintro _ w1 ⟨v1, rfl, ho1, he1⟩; obtain ⟨A1, c1, hv1, _⟩ := OwnL.rd ho1 (by simp); subst hv1))
      go_ret2
      refine ⟨u4, ps, ?_, hs'.out, (ho.ext he1).ext (Ext_alloc _ (Ext.refl _)), Ext_alloc _ (he.trans he1)⟩
      rw [← ht'.out]; rfl
    | some r =>
      obtain ⟨q1, q2⟩ := dec_yes hd
      obtain ⟨q3, q4⟩ := read_some hd
      have hf := decN_fits hd
      have hrl : r.l.length ≤ 400 := by have := validRec_facts (decN_some hd).2.1; omega
      rw [q1, q2] at CD
      obtain ⟨a', ha'⟩ : ∃ a', a + sizeAt l a = a' := ⟨_, rfl⟩
      rw [ha'] at q3 q4
      rw [show a + nmAt l a + 6 + szAt l a = a' by rw [← ha']; unfold sizeAt; omega] at CD
      have ha2 : a' ≤ l.length := by omega
      have ha3 : a < a' := by omega
      obtain ⟨k, nm, ver, d⟩ := r
      dsimp only [Option.getD_some] at CD hrl
      have hs' : Hid ((ps.map Prod.fst ++ [⟨k, nm, ver, d⟩]) ++ recs l a' = recs l 0) := by have := hs.out; rw [q3] at this; show _ = _; rw [← this]; simp
      have ht' : Hid (stop l a' = stop l 0) := by have := ht.out; rw [q4] at this; exact this
      clear q1 q2 q3 q4 hs ht hd ha' hf
      have HB : Hid ((ps.length + 1) * 56 ≤ 140737488355328) := by show _ ≤ _; omega
      have HM : Hid (ps.length + 1 ≤ maxLen) := by show _ ≤ _; simp only [maxLen]; omega
      unfold vrec at CD
      go_wp2_with (first
        | (go_at_call 153; refine (CD.out _ (H.out.ext he)).mono ?_; rintro _ w1 ⟨v1, rfl, ho1, he1⟩; obtain ⟨A1, c1, hv1, _⟩ := OwnL.rd ho1 (by omega); subst hv1; have ex := Ext_alloc (.cells #[.int .i64 k, .string nm, .int .i64 ver, .slice A1 d.length c1] 138) (Ext.refl w1); have hor := (ho.ext he1).ext ex)
        | (at_builtin; refine wpList_appB rfl (.tmp 21) (.tmp 23) _ rfl E_rec w _ _ ps.length _ rfl hor.1 ((he.trans he1).trans ex) (rcells (⟨k, nm, ver, d⟩, .slice A1 d.length c1)) _ rfl 1 _ _ rfl (by simp) rfl (by intro u hu; simp [rcells] at hu; rcases hu with rfl | rfl | rfl | rfl <;> rfl) HM.out HB.out ?_; intro v2 w2 ho2 he2 hb2 hg2))
      have hfin : OwnR w w2 v2 (ps ++ [(⟨k, nm, ver, d⟩, .slice A1 d.length c1)]) := by
        have hx := Ext_alloc (.cells #[.int .i64 k, .string nm, .int .i64 ver, .slice A1 d.length c1] 138) ex
        refine OwnR.push (hor.ext (Ext_alloc _ (Ext.refl _))) (p := (⟨k, nm, ver, d⟩, .slice A1 d.length c1)) (OwnL.ext (OwnL.lower ho1 he) hx) ?_ ?_ ho2 hb2 hg2
        · intro q hq g hg hg'
          have h1 := OwnL.block (ho.2.1 q hq) g hg
          have h2 := (World.ownsRow.lt ho1 g hg').1
          omega
        · intro g hg hg'
          have h1 := (World.ownsRow.lt ho.1 g hg).2
          have h2 := (World.ownsRow.lt ho1 g hg').1
          omega
      go_roundw
      case rel => exact ⟨a', ps ++ [(⟨k, nm, ver, d⟩, .slice A1 d.length c1)], by omega, by go_num, hfin, by simpa [Hid] using hs'.out, ht', he2⟩
      case measure => simp [intOf]; omega
end Go.Proofs.Ytlaejcacembjiaa

/- The laws' marks as text. -/
namespace Go.Proofs.Ytlaejcacembjiaa
open Go.RowKit Go.Sort

/-- a digit's byte -/
def dig8 (k : Nat) : UInt8 := UInt8.ofNat (48 + k % 10)
def mtF : Nat → Nat → ByteArray → ByteArray
  | 0, _, s => s
  | f + 1, k, s => if k = 0 then s else mtF f (k / 10) (⟨#[dig8 k]⟩ ++ s)
theorem mtF_fuel : ∀ f g k s, k ≤ f → k ≤ g → mtF f k s = mtF g k s := by
  intro f
  induction f with
  | zero =>
    intro g k s h _
    obtain rfl : k = 0 := by omega
    cases g with
    | zero => rfl
    | succ g => rw [mtF, mtF, if_pos rfl]
  | succ f ih =>
    intro g k s h1 h2
    cases g with
    | zero =>
      obtain rfl : k = 0 := by omega
      rw [mtF, mtF, if_pos rfl]
    | succ g =>
      rw [mtF, mtF]
      by_cases hk : k = 0
      · rw [if_pos hk, if_pos hk]
      · rw [if_neg hk, if_neg hk, ih g (k / 10) _ (by omega) (by omega)]
def mt (k : Nat) (s : ByteArray) : ByteArray := mtF k k s
theorem mt_zero (s : ByteArray) : mt 0 s = s := rfl
theorem mt_step {k : Nat} (h : 0 < k) (s : ByteArray) : mt k s = mt (k / 10) (⟨#[dig8 k]⟩ ++ s) := by
  unfold mt
  obtain ⟨f, rfl⟩ : ∃ f, k = f + 1 := ⟨k - 1, by omega⟩
  rw [mtF, if_neg (by omega)]
  exact mtF_fuel _ _ _ _ (by omega) (by omega)
/-- the text of a mark -/
def markT (k : Nat) : ByteArray := ⟨#[109]⟩ ++ mt k ⟨#[]⟩
/-- string([]byte{x}) -/
theorem run_one_byte (w : World) (n : Nat) :
    (convert 45 9 (.slice (some ⟨w.heap.size, 0, none⟩) 1 1)).run Try.prog (w.alloc (.cells #[.int .u8 (n : Int)] 5)) = .ok (.string ⟨#[UInt8.ofNat n]⟩) (w.alloc (.cells #[.int .u8 (n : Int)] 5)) := by
  have h1 := run_convert_bytes_arg (P := Try.prog) (w.alloc (.cells #[.int .u8 (n : Int)] 5)) 45 5 Try.underlying45 Try.underlying5 w.heap.size 0 1 1 [(n : Int)] rfl (fun i hi => by
    obtain rfl : i = 0 := by omega
    simp) 9 Try.underlying9
  rw [h1]
  rfl
set_option maxRecDepth 100000 in
set_option maxHeartbeats 400000 in
theorem markText_c (k : Nat) (w : World) (hk : 0 < k) (hk2 : k ≤ 1099511627776) :
    Gives Try.prog 83 #[.int .i64 k] w (.string (markT k)) := by
  go_enter Try.func83, Try.ntmps83
  go_wp2
  go_loopw [0, 3] (fun kk t wr => ∃ (n : Nat) (s : ByteArray), s.size + n ≤ k ∧ kk = .int .i64 n ∧ t = .string s ∧ Hid (mt n s = mt k ⟨#[]⟩) ∧ Ext w wr) (fun kk _ _ => (intOf kk).toNat)
  case atStart => exact ⟨k, ⟨#[]⟩, Nat.le_of_eq (Nat.zero_add k), rfl, rfl, rfl, Ext.refl _⟩
  case round =>
    obtain ⟨n, s, hn, rfl, rfl, hs, he⟩ := hrel
    by_cases h0 : 0 < n
    · have hst := Lib.hid ((mt_step h0 s).symm.trans hs.out)
      have hcv : ∀ w' : World, (convert 45 9 (.slice (some ⟨w'.heap.size, 0, none⟩) 1 1)).run Try.prog (w'.alloc (.cells #[.int .u8 (48 + (n : Int) % 10)] 5)) = .ok (.string ⟨#[dig8 n]⟩) (w'.alloc (.cells #[.int .u8 (48 + (n : Int) % 10)] 5)) := by
        intro w'
        have := run_one_byte w' (48 + n % 10)
        rw [show ((48 + n % 10 : Nat) : Int) = 48 + (n : Int) % 10 by omega] at this
        exact this
      have hcvr := hcv wr
      clear hcv
      go_wp2
      go_roundw
      case rel => exact ⟨n / 10, _, by rw [ByteArray.size_append]; show 1 + s.size + n / 10 ≤ k; omega, by go_num, rfl, hst, Ext_alloc _ he⟩
      case measure => simp [intOf]; omega
    · obtain rfl : n = 0 := by omega
      have hs2 := Lib.hid ((mt_zero s).symm.trans hs.out)
      clear hs
      go_wp2
      go_ret
      exact ⟨by rw [hs2.out]; rfl, he⟩
end Go.Proofs.Ytlaejcacembjiaa

/- The laws' helpers over slices of records: comparison, marks. -/
namespace Go.Proofs.Ytlaejcacembjiaa
open Go.RowKit Go.Sort

theorem rcells_get : ∀ (ps : List (DRec × Value)) (i j : Nat) (h : i < ps.length), j < 4 → (ps.flatMap rcells)[i * 4 + j]? = (rcells ps[i])[j]? := by
  intro ps
  induction ps with
  | nil => intro i j h; simp at h
  | cons p t ih =>
    intro i j h hj
    rw [List.flatMap_cons]
    cases i with
    | zero =>
      rw [List.getElem?_append_left (by simp [rcells]; omega)]
      simp
    | succ i =>
      rw [List.getElem?_append_right (by simp [rcells]; omega)]
      have : (i + 1) * 4 + j - (rcells p).length = i * 4 + j := by simp [rcells]; omega
      rw [this, ih i j (by simpa using h) hj]
      simp
/-- a slice of records that reads as ps -/
def RdR (w : World) (A : Option Addr) (ps : List (DRec × Value)) (c : Nat) : Prop :=
  ps.length ≤ c ∧ ps.length ≤ 1099511627776 ∧ (∀ p ∈ ps, ∃ A' c', p.2 = .slice A' p.1.l.length c' ∧ Bs w A' p.1.l c') ∧
  (0 < ps.length → ∃ b, A = some ⟨b, 0, none⟩ ∧ b < w.heap.size ∧ ∀ (w' : World), Ext w w' → ∀ i (h : i < ps.length), w'.cell? ⟨b, i * 4, none⟩ = some (.int .i64 ps[i].1.k) ∧ w'.cell? ⟨b, i * 4 + 1, none⟩ = some (.string ps[i].1.nm) ∧
    w'.cell? ⟨b, i * 4 + 2, none⟩ = some (.int .i64 ps[i].1.ver) ∧ w'.cell? ⟨b, i * 4 + 3, none⟩ = some ps[i].2)
theorem RdR.ext {w w1 : World} {A : Option Addr} {ps : List (DRec × Value)} {c : Nat} (h : RdR w A ps c) (e : Ext w w1) : RdR w1 A ps c :=
  ⟨h.1, h.2.1, fun p hp => let ⟨A', c', h1, h2⟩ := h.2.2.1 p hp; ⟨A', c', h1, h2.ext e⟩, fun hp => let ⟨b, h1, h2, h3⟩ := h.2.2.2 hp; ⟨b, h1, Nat.lt_of_lt_of_le h2 e.size, fun w' e' => h3 w' (e.trans e')⟩⟩
theorem OwnR.rd {w0 w : World} {v : Value} {ps : List (DRec × Value)} (h : OwnR w0 w v ps) (hl : ps.length ≤ 1099511627776) (hd : ∀ p ∈ ps, p.1.l.length ≤ 140737488351232) : ∃ A c, v = .slice A ps.length c ∧ RdR w A ps c := by
  have hdat : ∀ p ∈ ps, ∃ A' c', p.2 = .slice A' p.1.l.length c' ∧ Bs w A' p.1.l c' := fun p hp => OwnL.rd (h.2.1 p hp) (hd p hp)
  rcases h.1.2 with ⟨rfl, h0⟩ | ⟨g, cap, cur, rfl, hb, hg, hnc, hcm, hcs, htake⟩
  · exact ⟨none, 0, by rw [h0], by omega, hl, hdat, fun hp => by omega⟩
  · refine ⟨_, _, rfl, by omega, hl, hdat, fun hp => ⟨g, rfl, heap_lt hg, fun w' e i hi => ?_⟩⟩
    have hc : ∀ j, j < 4 → w'.cell? ⟨g, i * 4 + j, none⟩ = (rcells ps[i])[j]? := by
      intro j hj
      rw [boxed_at hg e, ← rcells_get ps i j hi hj, ← htake, List.getElem?_take, if_pos (by omega)]
      simp
    exact ⟨by have := hc 0 (by omega); simpa [rcells] using this, by have := hc 1 (by omega); simpa [rcells] using this, by have := hc 2 (by omega); simpa [rcells] using this, by have := hc 3 (by omega); simpa [rcells] using this⟩
theorem Own.set' {e : TypeId} {size : Nat} {w0 w : World} {v : Value} {n : Nat} {xs : List Value} (h : Own e size w0 w v n xs) (p : Addr) (u : Value) (hne : v.ownBlock ≠ some p.block) : Own e size w0 (w.setCell p u) v n xs := by
  refine World.ownsRow.kept h (⟨rfl, rfl, rfl, by simp, fun k _ hk => heap_setCell_other w p k u (fun e => hk (by rw [e]))⟩ : w.grownBy (w.setCell p u) (some p.block)) ?_
  cases hb : v.ownBlock with
  | none => exact .inl rfl
  | some g => right; rw [hb] at hne; exact fun he => hne he
theorem Own.kept' {e : TypeId} {size : Nat} {w0 w w' : World} {v : Value} {n : Nat} {xs : List Value} (h : Own e size w0 w v n xs) {row : Option Nat} (hg : w.grownBy w' row) (hne : ∀ g, v.ownBlock = some g → row ≠ some g) : Own e size w0 w' v n xs := by
  refine World.ownsRow.kept h hg ?_
  cases hb : v.ownBlock with
  | none => exact .inl rfl
  | some g => right; exact fun he => hne g hb he.symm
/-- where the marks of a record begin, how many bytes it has, its data's slice -/
def mcells (m : Nat × Nat × Value) : List Value := [.int .i64 (m.1 : Int), .string (markT (m.1 + 1)), .int .i64 ((m.1 : Int) + 2), m.2.2]
def msOf : Nat → List (DRec × Value) → List (Nat × Nat × Value)
  | _, [] => []
  | k, p :: t => (k, p.1.l.length, p.2) :: msOf (k + 3 + p.1.l.length) t
def kEnd : Nat → List (DRec × Value) → Nat
  | k, [] => k
  | k, p :: t => kEnd (k + 3 + p.1.l.length) t
theorem msOf_append (k : Nat) (a b : List (DRec × Value)) : msOf k (a ++ b) = msOf k a ++ msOf (kEnd k a) b := by
  induction a generalizing k with
  | nil => rfl
  | cons p t ih => simp [msOf, kEnd, ih]
theorem kEnd_append (k : Nat) (a b : List (DRec × Value)) : kEnd k (a ++ b) = kEnd (kEnd k a) b := by
  induction a generalizing k with
  | nil => rfl
  | cons p t ih => simp [kEnd, ih]
theorem msOf_length (k : Nat) (a : List (DRec × Value)) : (msOf k a).length = a.length := by
  induction a generalizing k with
  | nil => rfl
  | cons p t ih => simp [msOf, ih]
theorem mcells_len (ms : List (Nat × Nat × Value)) : (ms.flatMap mcells).length = ms.length * 4 := by
  induction ms with
  | nil => rfl
  | cons p t ih => rw [List.flatMap_cons, List.length_append, ih, List.length_cons]; simp [mcells]; omega
theorem kEnd_ge (k : Nat) (a : List (DRec × Value)) : k + 3 * a.length ≤ kEnd k a := by
  induction a generalizing k with
  | nil => simp [kEnd]
  | cons p t ih => have := ih (k + 3 + p.1.l.length); simp only [kEnd, List.length_cons]; omega
theorem kEnd_le (k D : Nat) (a : List (DRec × Value)) (h : ∀ p ∈ a, p.1.l.length ≤ D) : kEnd k a ≤ k + (3 + D) * a.length := by
  induction a generalizing k with
  | nil => simp [kEnd]
  | cons p t ih =>
    have h1 := ih (k + 3 + p.1.l.length) (fun q hq => h q (List.mem_cons_of_mem _ hq))
    have h2 := h p (List.mem_cons_self ..)
    simp only [kEnd, List.length_cons, Nat.mul_add] at *
    omega
theorem kEnd_mono (k : Nat) (a : List (DRec × Value)) (i : Nat) : kEnd k (a.take i) ≤ kEnd k a := by
  conv => rhs; rw [← List.take_append_drop i a, kEnd_append]
  have := kEnd_ge (kEnd k (a.take i)) (a.drop i)
  omega
/-- three cells of a record are laid -/
theorem mark_row (ms : List (Nat × Nat × Value)) (p : DRec × Value) (rest : List (DRec × Value)) (k i : Nat) (hi : ms.length = i) :
    (((ms.flatMap mcells ++ (p :: rest).flatMap rcells).set (i * 4) (.int .i64 (k : Int))).set (i * 4 + 1) (.string (markT (k + 1)))).set (i * 4 + 2) (.int .i64 ((k : Int) + 2)) = (ms ++ [(k, p.1.l.length, p.2)]).flatMap mcells ++ rest.flatMap rcells := by
  have hl : (ms.flatMap mcells).length = i * 4 := by rw [mcells_len, hi]
  rw [List.set_append_right _ _ (by omega), List.set_append_right _ _ (by omega), List.set_append_right _ _ (by omega), hl]
  rw [show i * 4 - i * 4 = 0 by omega, show i * 4 + 1 - i * 4 = 1 by omega, show i * 4 + 2 - i * 4 = 2 by omega]
  simp [rcells, mcells, List.flatMap_cons]
/-- marked records that the call since w0 made: the first i of them are marked -/
def Marking (w0 w : World) (g c : Nat) (ps : List (DRec × Value)) (k i : Nat) : Prop :=
  Own 138 4 w0 w (.slice (some ⟨g, 0, none⟩) ps.length c) ps.length ((msOf k (ps.take i)).flatMap mcells ++ (ps.drop i).flatMap rcells) ∧
  (∀ j (h : j < ps.length), j < i → Own 5 1 w0 w ps[j].2 ps[j].1.l.length ((List.range ps[j].1.l.length).map (mk8 ((kEnd k (ps.take j) : Nat) + 3 : Int)))) ∧
  (∀ j (h : j < ps.length), i ≤ j → OwnL vu8 5 w0 w ps[j].2 ps[j].1.l)
theorem OwnR.marking {w0 w : World} {g c : Nat} {ps : List (DRec × Value)} (h : OwnR w0 w (.slice (some ⟨g, 0, none⟩) ps.length c) ps) (k : Nat) : Marking w0 w g c ps k 0 :=
  ⟨by simpa [msOf] using h.1, fun j _ h0 => by omega, fun j hj _ => h.2.1 _ (List.getElem_mem hj)⟩
theorem Apart.at {v : Value} {ps : List (DRec × Value)} (h : Apart (v :: ps.map Prod.snd)) : (∀ j (hj : j < ps.length), ∀ g, v.ownBlock = some g → ps[j].2.ownBlock ≠ some g) ∧ (∀ i j (hi : i < ps.length) (hj : j < ps.length), i ≠ j → ∀ g, ps[i].2.ownBlock = some g → ps[j].2.ownBlock ≠ some g) := by
  unfold Apart at h
  rw [List.pairwise_cons] at h
  refine ⟨fun j hj g hg => h.1 _ (List.mem_map_of_mem (List.getElem_mem hj)) g hg, fun i j hi hj hne g hg hg' => ?_⟩
  have hp := List.pairwise_iff_getElem.1 h.2
  rcases Nat.lt_or_ge i j with hlt | hge
  · exact hp i j (by simpa using hi) (by simpa using hj) hlt g (by simpa using hg) (by simpa using hg')
  · exact hp j i (by simpa using hj) (by simpa using hi) (by omega) g (by simpa using hg') (by simpa using hg)

end Go.Proofs.Ytlaejcacembjiaa

/- The laws' test of marked records. -/
namespace Go.Proofs.Ytlaejcacembjiaa
open Go.RowKit Go.Sort

theorem msOf_get (k : Nat) (ps : List (DRec × Value)) (i : Nat) (h : i < ps.length) : (msOf k ps)[i]? = some (kEnd k (ps.take i), ps[i].1.l.length, ps[i].2) := by
  induction ps generalizing k i with
  | nil => simp at h
  | cons p t ih =>
    cases i with
    | zero => rfl
    | succ i =>
      have := ih (k + 3 + p.1.l.length) i (by simpa using h)
      simpa [msOf, kEnd] using this
theorem mcells_get : ∀ (ms : List (Nat × Nat × Value)) (i j : Nat) (h : i < ms.length), j < 4 → (ms.flatMap mcells)[i * 4 + j]? = (mcells ms[i])[j]? := by
  intro ms
  induction ms with
  | nil => intro i j h; simp at h
  | cons p t ih =>
    intro i j h hj
    rw [List.flatMap_cons]
    cases i with
    | zero =>
      rw [List.getElem?_append_left (by simp [mcells]; omega)]
      simp
    | succ i =>
      rw [List.getElem?_append_right (by simp [mcells]; omega)]
      have : (i + 1) * 4 + j - (mcells p).length = i * 4 + j := by simp [mcells]; omega
      rw [this, ih i j (by simpa using h) hj]
      simp
/-- a slice of marked records -/
def RdM (w : World) (A : Option Addr) (ps : List (DRec × Value)) (k c : Nat) : Prop :=
  ps.length ≤ c ∧ (∀ i (h : i < ps.length), ∃ A' c', ps[i].2 = .slice A' ps[i].1.l.length c' ∧ Rd (mk8 ((kEnd k (ps.take i) : Nat) + 3 : Int)) w A' (List.range ps[i].1.l.length) c') ∧
  (0 < ps.length → ∃ b, A = some ⟨b, 0, none⟩ ∧ b < w.heap.size ∧ ∀ (w' : World), Ext w w' → ∀ i (h : i < ps.length), w'.cell? ⟨b, i * 4, none⟩ = some (.int .i64 (kEnd k (ps.take i) : Nat)) ∧ w'.cell? ⟨b, i * 4 + 1, none⟩ = some (.string (markT (kEnd k (ps.take i) + 1))) ∧
    w'.cell? ⟨b, i * 4 + 2, none⟩ = some (.int .i64 ((kEnd k (ps.take i) : Nat) + 2)) ∧ w'.cell? ⟨b, i * 4 + 3, none⟩ = some ps[i].2)
theorem RdM.ext {w w1 : World} {A : Option Addr} {ps : List (DRec × Value)} {k c : Nat} (h : RdM w A ps k c) (e : Ext w w1) : RdM w1 A ps k c :=
  ⟨h.1, fun i hi => let ⟨A', c', h1, h2⟩ := h.2.1 i hi; ⟨A', c', h1, h2.ext e⟩, fun hp => let ⟨b, h1, h2, h3⟩ := h.2.2 hp; ⟨b, h1, Nat.lt_of_lt_of_le h2 e.size, fun w' e' => h3 w' (e.trans e')⟩⟩
theorem Marking.rd {w0 w : World} {g c : Nat} {ps : List (DRec × Value)} {k : Nat} (h : Marking w0 w g c ps k ps.length) (hd : ∀ p ∈ ps, p.1.l.length ≤ 140737488351232) : RdM w (some ⟨g, 0, none⟩) ps k c := by
  obtain ⟨m1, m2, _⟩ := h
  rw [List.take_length, List.drop_length, List.flatMap_nil, List.append_nil] at m1
  refine ⟨?_, fun i hi => ?_, fun hp => ?_⟩
  · rcases m1.2 with ⟨hv, h0⟩ | ⟨g', cap, cur, hv, hb, hg, hnc, hcm, hcs, htake⟩
    · cases hv
    · injection hv with _ _ h3; omega
  · obtain ⟨A', c', hv, hr⟩ := Own.rd (m2 i hi hi) (by rw [List.length_range]; exact hd _ (List.getElem_mem hi))
    rw [List.length_range] at hv
    exact ⟨A', c', hv, hr⟩
  · have hlt := (World.ownsRow.lt m1 g rfl).2
    refine ⟨g, rfl, hlt, fun w' e i hi => ?_⟩
    have m1' := Own.ext m1 e
    have hi' : i < (msOf k ps).length := by rw [msOf_length]; exact hi
    have hget := msOf_get k ps i hi
    rw [List.getElem?_eq_getElem hi'] at hget
    injection hget with hget
    have hc : ∀ j, j < 4 → w'.cell? ⟨g, i * 4 + j, none⟩ = (mcells (kEnd k (ps.take i), ps[i].1.l.length, ps[i].2))[j]? := by
      intro j hj
      rw [m1'.cellAt (i * 4 + j) (by omega), mcells_get _ i j hi' hj, hget]
    exact ⟨by have := hc 0 (by omega); simpa [mcells] using this, by have := hc 1 (by omega); simpa [mcells] using this, by have := hc 2 (by omega); simpa [mcells] using this, by have := hc 3 (by omega); simpa [mcells] using this⟩
end Go.Proofs.Ytlaejcacembjiaa
