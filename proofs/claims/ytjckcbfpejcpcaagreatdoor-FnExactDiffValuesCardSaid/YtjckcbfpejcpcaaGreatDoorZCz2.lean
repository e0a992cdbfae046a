/- The laws' sizes of descriptions and registries. -/
import Derived.Test.YtjckcbfpejcpcaaGreatDoorZCz1
import Derived.Deep.RegionHeld3
import Derived.Laws.BytesArg
import Derived.Laws.RangeAny
import Derived.Lib.AppendStr
import Derived.Lib.ConvBytes
set_option linter.unusedVariables false
set_option linter.unusedSimpArgs false
namespace Go.Proofs.YtjckcbfpejcpcaaGreatDoor
open Go.RowKit Go.Sort

theorem szN_spec (n : Nat) (left : Int) : (left - n < 0 ∧ szN n left = -1) ∨ (0 ≤ left - n ∧ szN n left = left - n) := by
  unfold szN; split
  · exact .inl ⟨by assumption, rfl⟩
  · exact .inr ⟨by omega, rfl⟩
set_option maxHeartbeats 1000000 in
theorem szStringS_c (A : Option Addr) (l : List ByteArray) (c : Nat) (left : Int) (w : World) (h : Rd0 vstr w A l c) (hw : ∀ s ∈ l, s.size ≤ 9223372036854775807) (h0 : 0 ≤ left) (h1 : left ≤ 1048576) :
    Gives Tryz.prog 90 #[.slice A l.length c, .int .i64 left] w (.int .i64 (szN (l.length + szStrs l) left)) := by
  have hl := h.len
  have S := szN_spec (l.length + szStrs l) left
  obtain ⟨T, hT⟩ : ∃ T, szN (l.length + szStrs l) left = T := ⟨_, rfl⟩
  rw [hT] at S ⊢
  have HS := Lib.hid S
  clear S hT
  by_cases hd : left - (l.length : Int) < 0
  · obtain rfl : T = -1 := by have := HS.out; omega
    go_enter Tryz.func90, Tryz.ntmps90
    go_wp2
    go_ret
    exact ⟨rfl, Ext.refl _⟩
  · go_enter Tryz.func90, Tryz.ntmps90
    go_wp2
    go_loopw [1, 5] (fun t i wr => ∃ (k : Nat) (z : Int), k ≤ l.length ∧ i = .int .i64 k ∧ t = .int .i64 z ∧ 0 ≤ z ∧ z ≤ 1048576 ∧ Hid (z = left - l.length - szStrs (l.take k)) ∧ Ext w wr) (fun _ i _ => l.length - (intOf i).toNat)
    case atStart => exact ⟨0, _, by omega, rfl, rfl, by omega, by omega, by simp [Hid, szStrs], Ext.refl _⟩
    case round =>
      obtain ⟨k, z, hk, rfl, rfl, hz0, hz1, hz, he⟩ := hrel
      by_cases hlt : k < l.length
      · obtain ⟨b, off, rfl, hb, hc⟩ := h.at k hlt
        have hs := hw l[k] (List.getElem_mem hlt)
        have HT := Lib.hid (szStrs_take l k hlt)
        have HL := Lib.hid (szStrs_le l (k+1))
        by_cases hneg : z - (l[k].size : Int) < 0
        · obtain rfl : T = -1 := by have := HS.out; have := HT.out; have := HL.out; have := hz.out; omega
          clear h
          go_wp2
          go_ret
          exact ⟨rfl, he⟩
        · clear h
          go_wp2
          go_roundw
          case rel => exact ⟨k+1, _, by omega, by go_num, rfl, by omega, by omega, by have := HT.out; have := hz.out; show _ = _; omega, he⟩
          case measure => simp [intOf]; omega
      · have hk' : k = l.length := by omega
        have HZ : Hid (T = z) := by
          have := HS.out; have h2 := hz.out; rw [List.take_of_length_le (by omega)] at h2; show _ = _; omega
        go_wp2
        go_ret
        exact ⟨ret_i64 HZ.out.symm, he⟩
set_option maxRecDepth 100000 in
set_option maxHeartbeats 2000000 in
theorem szRule_c (r : DRule) (Ab : Option Addr) (cb : Nat) (An : Option Addr) (cn : Nat) (At : Option Addr) (ct : Nat) (Ak : Option Addr) (ck : Nat) (left : Int) (w : World) (h : RdS w r Ab cb An cn At ct Ak ck) (hw : WfR r) (h0 : 0 ≤ left) (h1 : left ≤ 1048576) :
    Gives Tryz.prog 62 #[vrule r (.slice Ab r.bytes.length cb) (.slice An r.names.length cn) (.slice At r.tags.length ct) (.slice Ak r.kids.length ck), .int .i64 left] w (.int .i64 (szN (szRl r) left)) := by
  obtain ⟨hb, hn, ht, hk⟩ := h
  have hwn := hw.nm
  have S := szN_spec (szRl r) left
  obtain ⟨T, hT⟩ : ∃ T, szN (szRl r) left = T := ⟨_, rfl⟩
  rw [hT] at S ⊢
  unfold szRl at S
  have C1 := Lib.hid (fun left w h h0 h1 => szByteS_c Ab r.bytes cb left w h h0 h1)
  have C2 := Lib.hid (fun left w h h0 h1 => szStringS_c An r.names cn left w h hw.names h0 h1)
  have C3 := Lib.hid (fun left w h h0 h1 => szIntS_c At r.tags ct left w h h0 h1)
  have C4 := Lib.hid (fun left w h h0 h1 => szIntS_c Ak r.kids ck left w h h0 h1)
  have HS := Lib.hid S
  clear S hT hw
  have eb := Ext_alloc (.cells #[.string r.nm, .int .i64 r.kind, .int .i64 r.size, .bool r.little, .slice Ab r.bytes.length cb, .slice An r.names.length cn, .slice At r.tags.length ct, .slice Ak r.kids.length ck] 101) (Ext.refl w)
  unfold vrule
  by_cases q1 : left - (r.nm.size : Int) < 0
  · obtain rfl : T = -1 := by have := HS.out; omega
    go_enter Tryz.func62, Tryz.ntmps62
    go_wp2
    go_ret
    exact ⟨rfl, eb⟩
  go_enter Tryz.func62, Tryz.ntmps62
  go_wp2_with fail
  refine (C1.out _ _ (hb.ext eb) (by omega) (by omega)).mono ?_; rintro _ w1 ⟨rfl, he1⟩
  have s1 := szN_spec r.bytes.length (left - r.nm.size)
  generalize szN r.bytes.length (left - r.nm.size) = z1 at *
  by_cases q2 : z1 < 0
  · obtain rfl : T = -1 := by have := HS.out; omega
    clear s1
    go_wp2
    go_ret
    exact ⟨rfl, eb.trans he1⟩
  have S1 : Hid (z1 = left - r.nm.size - r.bytes.length) := by show _ = _; omega
  have z1a : z1 ≤ 1048576 := by omega
  clear s1
  have D1 := fun w' (e : Ext _ w') => boxed (he1.trans e)
  go_wp2_with fail
  refine (C2.out _ _ (hn.ext (eb.trans he1)) (by omega) (by omega)).mono ?_; rintro _ w2 ⟨rfl, he2⟩
  have s2 := szN_spec (r.names.length + szStrs r.names) z1
  generalize szN (r.names.length + szStrs r.names) z1 = z2 at *
  have e2 := he1.trans he2
  by_cases q3 : z2 < 0
  · obtain rfl : T = -1 := by have := HS.out; have := S1.out; omega
    clear s2
    go_wp2
    go_ret
    exact ⟨rfl, eb.trans e2⟩
  have S2 : Hid (z2 = left - r.nm.size - r.bytes.length - (r.names.length + szStrs r.names)) := by have := S1.out; show _ = _; omega
  have z2a : z2 ≤ 1048576 := by omega
  clear s2 D1
  have D2 := fun w' (e : Ext _ w') => boxed (e2.trans e)
  go_wp2_with fail
  refine (C3.out _ _ (ht.ext (eb.trans e2)) (by omega) (by omega)).mono ?_; rintro _ w3 ⟨rfl, he3⟩
  have s3 := szN_spec r.tags.length z2
  generalize szN r.tags.length z2 = z3 at *
  have e3 := e2.trans he3
  by_cases q4 : z3 < 0
  · obtain rfl : T = -1 := by have := HS.out; have := S2.out; omega
    clear s3
    go_wp2
    go_ret
    exact ⟨rfl, eb.trans e3⟩
  have S3 : Hid (z3 = left - r.nm.size - r.bytes.length - (r.names.length + szStrs r.names) - r.tags.length) := by have := S2.out; show _ = _; omega
  have z3a : z3 ≤ 1048576 := by omega
  clear s3 D2
  have D3 := fun w' (e : Ext _ w') => boxed (e3.trans e)
  go_wp2_with fail
  refine (C4.out _ _ (hk.ext (eb.trans e3)) (by omega) (by omega)).mono ?_; rintro _ w4 ⟨rfl, he4⟩
  have s4 := szN_spec r.kids.length z3
  generalize szN r.kids.length z3 = z4 at *
  have HT : Hid (z4 = T) := by have := HS.out; have := S3.out; show _ = _; omega
  clear s4
  by_cases q5 : z4 < 0
  · obtain rfl : T = -1 := by have := HS.out; have := HT.out; omega
    go_wp2
    go_ret
    exact ⟨rfl, eb.trans (e3.trans he4)⟩
  go_wp2
  go_ret
  exact ⟨ret_i64 HT.out, eb.trans (e3.trans he4)⟩
set_option maxRecDepth 100000 in
set_option maxHeartbeats 2000000 in
theorem szRuleS_c (A : Option Addr) (ds : List DRule) (c : Nat) (left : Int) (w : World) (h : RdD w A ds c) (hw : WfD ds) (h0 : 0 ≤ left) (h1 : left ≤ 1048576) :
    Gives Tryz.prog 27 #[.slice A ds.length c, .int .i64 left] w (.int .i64 (szN (szD ds) left)) := by
  have hl := h.len
  have S := szN_spec (szD ds) left
  obtain ⟨T, hT⟩ : ∃ T, szN (szD ds) left = T := ⟨_, rfl⟩
  rw [hT] at S ⊢
  unfold szD at S
  have HS := Lib.hid S
  clear S hT
  by_cases hd : left - (ds.length : Int) < 0
  · obtain rfl : T = -1 := by have := HS.out; omega
    go_enter Tryz.func27, Tryz.ntmps27
    go_wp2
    go_ret
    exact ⟨rfl, Ext.refl _⟩
  · go_enter Tryz.func27, Tryz.ntmps27
    go_wp2
    go_loopw [1, 5] (fun t i wr => ∃ (k : Nat) (z : Int), k ≤ ds.length ∧ i = .int .i64 k ∧ t = .int .i64 z ∧ 0 ≤ z ∧ z ≤ 1048576 ∧ Hid (z = left - ds.length - ((ds.take k).map szRl).sum) ∧ Ext w wr) (fun _ i _ => ds.length - (intOf i).toNat)
    case atStart => exact ⟨0, _, by omega, rfl, rfl, by omega, by omega, by simp [Hid], Ext.refl _⟩
    case round =>
      obtain ⟨k, z, hk, rfl, rfl, hz0, hz1, hz, he⟩ := hrel
      by_cases hlt : k < ds.length
      · obtain ⟨b, off, Ab, cb, An, cn, At, ct, Ak, ck, rfl, hb, hs, hr⟩ := h.at k hlt
        have HT := Lib.hid (sum_take szRl ds k hlt)
        have HL := Lib.hid (sum_split szRl ds (k+1))
        have hwk := hw _ (List.getElem_mem hlt)
        have s1 := szN_spec (szRl ds[k]) z
        generalize ds[k] = r at *
        have C := Lib.hid (fun w hs => szRule_c r Ab cb An cn At ct Ak ck z w hs hwk hz0 hz1)
        generalize szN (szRl r) z = z1 at *
        obtain ⟨k0, k1, k2, k3, k4, k5, k6, k7⟩ := hr
        have S1 := Lib.hid s1
        unfold vrule at C
        clear s1 h
        go_wp2_with fail
        refine (C.out _ (hs.ext he)).mono ?_; rintro _ w1 ⟨rfl, he1⟩
        by_cases q : z1 < 0
        · obtain rfl : T = -1 := by have := HS.out; have := HT.out; have := HL.out; have := hz.out; have := S1.out; omega
          go_wp2
          go_ret
          exact ⟨rfl, he.trans he1⟩
        · have hz1' : z1 ≤ 1048576 := by have := S1.out; omega
          go_wp2
          go_roundw
          case rel => exact ⟨k+1, _, by omega, by go_num, rfl, by omega, by omega, by have := HT.out; have := hz.out; have := S1.out; show _ = _; omega, he.trans he1⟩
          case measure => simp [intOf]; omega
      · have hk' : k = ds.length := by omega
        have HZ : Hid (T = z) := by
          have := HS.out; have h2 := hz.out; rw [List.take_of_length_le (by omega)] at h2; show _ = _; omega
        go_wp2
        go_ret
        exact ⟨ret_i64 HZ.out.symm, he⟩
set_option maxHeartbeats 400000 in
theorem szDescription_c (A : Option Addr) (ds : List DRule) (c : Nat) (left : Int) (w : World) (h : RdD w A ds c) (hw : WfD ds) (h0 : 0 ≤ left) (h1 : left ≤ 1048576) :
    Gives Tryz.prog 5 #[vdesc (.slice A ds.length c), .int .i64 left] w (.int .i64 (szN (szD ds) left)) := by
  have C := Lib.hid (fun w h => szRuleS_c A ds c left w h hw h0 h1)
  have hz := szN_lo (szD ds) left h1 h0
  generalize szN (szD ds) left = z at *
  unfold vdesc
  by_cases hd : z < 0
  · obtain rfl : z = -1 := by omega
    go_enter Tryz.func5, Tryz.ntmps5
    go_wp2_with fail
    refine (C.out _ (h.ext (Ext_alloc _ (Ext.refl _)))).mono ?_; rintro _ w1 ⟨rfl, he⟩
    go_wp2
    go_ret
    exact ⟨rfl, (Ext_alloc _ (Ext.refl w)).trans he⟩
  · go_enter Tryz.func5, Tryz.ntmps5
    go_wp2_with fail
    refine (C.out _ (h.ext (Ext_alloc _ (Ext.refl _)))).mono ?_; rintro _ w1 ⟨rfl, he⟩
    go_wp2
    go_ret
    exact ⟨rfl, (Ext_alloc _ (Ext.refl w)).trans he⟩
end Go.Proofs.YtjckcbfpejcpcaaGreatDoor

/- The laws' copies, as what they read as. -/
namespace Go.Proofs.YtjckcbfpejcpcaaGreatDoor
open Go.RowKit Go.Sort

theorem rulesOf_len (ps : List RV) : (rulesOf ps).length = ps.length := by simp [rulesOf]
theorem OwnD.short {ps : List RV} (h : szD (rulesOf ps) ≤ 1048576) : ps.length ≤ 9223372036854775807 ∧ ∀ p ∈ ps, ShortR p.r := by
  refine ⟨by unfold szD at h; rw [rulesOf_len] at h; omega, fun p hp => ?_⟩
  exact shortD_of h p.r (List.mem_map_of_mem hp)
theorem toDesc_r (A : Option Addr) (ds : List DRule) (c : Nat) (w : World) (h : RdD w A ds c) (hz : szD ds ≤ 1048576) :
    Calls Tryz.prog 8 #[vdesc (.slice A ds.length c)] w fun e w' => ∃ A1 c1, e = .returned (vdesc (.slice A1 ds.length c1)) ∧ RdD w' A1 ds c1 ∧ Ext w w' := by
  refine (toDescription_c A ds c w h hz).mono ?_
  rintro e w' ⟨v, ps, he, rfl, ho, hx⟩
  obtain ⟨A1, c1, rfl, hr⟩ := ho.rd (OwnD.short hz).1 (OwnD.short hz).2
  exact ⟨A1, c1, he, hr, hx⟩
theorem szN_small {n : Nat} {left : Int} (h : ¬ szN n left < 0) (h1 : left ≤ 1048576) : n ≤ 1048576 := by have := (szN_ge h).1; omega
end Go.Proofs.YtjckcbfpejcpcaaGreatDoor

/- Worlds that differ in blocks of a stretch, and in new ones. -/
namespace Go.Proofs.YtjckcbfpejcpcaaGreatDoor
open Go.RowKit Go.Sort

/-- w' is w with new blocks, and writes to blocks from lo on, below hi -/
structure Wrote (lo hi : Nat) (w w' : World) : Prop where
  os : w'.os = w.os
  tape : w'.tape = w.tape
  output : w'.output = w.output
  size : w.heap.size ≤ w'.heap.size
  block : ∀ k, k < w.heap.size → (k < lo ∨ hi ≤ k) → w'.heap[k]? = w.heap[k]?
theorem Wrote.refl (lo hi : Nat) (w : World) : Wrote lo hi w w := ⟨rfl, rfl, rfl, Nat.le_refl _, fun _ _ _ => rfl⟩
theorem Wrote.trans {lo hi : Nat} {a b c : World} (h : Wrote lo hi a b) (k : Wrote lo hi b c) : Wrote lo hi a c :=
  ⟨k.os.trans h.os, k.tape.trans h.tape, k.output.trans h.output, Nat.le_trans h.size k.size, fun i hi hb => (k.block i (Nat.lt_of_lt_of_le hi h.size) hb).trans (h.block i hi hb)⟩
theorem Wrote.mono {lo hi lo' hi' : Nat} {a b : World} (h : Wrote lo hi a b) (h1 : lo' ≤ lo) (h2 : hi ≤ hi') : Wrote lo' hi' a b :=
  ⟨h.os, h.tape, h.output, h.size, fun i hi hb => h.block i hi (by omega)⟩
theorem Wrote.ext {lo hi : Nat} {w w' : World} (e : Ext w w') : Wrote lo hi w w' := ⟨e.os, e.tape, e.output, e.size, fun i hi _ => Below.block e i hi⟩
theorem Wrote.grown {lo hi : Nat} {w w' : World} {row : Option Nat} (h : w.grownBy w' row) (hr : ∀ g, row = some g → lo ≤ g ∧ g < hi) : Wrote lo hi w w' :=
  ⟨h.os, h.tape, h.output, h.size, fun i hi hb => h.block i hi (fun e => by have := hr i e.symm; omega)⟩
theorem Wrote.set {lo hi : Nat} (w : World) (a : Addr) (u : Value) (h1 : lo ≤ a.block) (h2 : a.block < hi) : Wrote lo hi w (w.setCell a u) :=
  Wrote.grown (grown_set w a u) (fun g hg => by injection hg with hg; subst hg; exact ⟨h1, h2⟩)
/-- what was there before lo stays -/
theorem Wrote.below {lo hi : Nat} {w0 w w' : World} (h : Wrote lo hi w w') (e : Ext w0 w) (hlo : w0.heap.size ≤ lo) : Ext w0 w' :=
  Below.trans e ⟨h.os, h.tape, h.output, h.size, fun k hk => h.block k (Nat.lt_of_lt_of_le hk e.size) (.inl (Nat.lt_of_lt_of_le hk hlo))⟩
theorem Own.wrote {e : TypeId} {size : Nat} {w0 w w' : World} {v : Value} {n : Nat} {xs : List Value} (h : Own e size w0 w v n xs) {lo hi : Nat} (hw : Wrote lo hi w w') (hv : ∀ g, v.ownBlock = some g → g < lo ∨ hi ≤ g) : Own e size w0 w' v n xs := by
  refine ⟨h.1, ?_⟩
  rcases h.2 with h0 | ⟨g, cap, cur, rfl, hb, hg, r⟩
  · exact .inl h0
  · exact .inr ⟨g, cap, cur, rfl, hb, (hw.block g (Array.getElem?_eq_some_iff.1 hg).1 (hv g rfl)).trans hg, r⟩
theorem OwnL.wrote {α : Type} {f : α → Value} {e : TypeId} {w0 w w' : World} {v : Value} {l : List α} (h : OwnL f e w0 w v l) {lo hi : Nat} (hw : Wrote lo hi w w') (hv : ∀ g, v.ownBlock = some g → g < lo ∨ hi ≤ g) : OwnL f e w0 w' v l := Own.wrote h hw hv
/-- .. made behind the stretch -/
theorem OwnL.behind {α : Type} {f : α → Value} {e : TypeId} {w0 w w' : World} {v : Value} {l : List α} (h : OwnL f e w0 w v l) {lo hi : Nat} (hw : Wrote lo hi w w') (hb : hi ≤ w0.heap.size) : OwnL f e w0 w' v l :=
  h.wrote hw (fun g hg => .inr (Nat.le_trans hb (World.ownsRow.lt h g hg).1))
end Go.Proofs.YtjckcbfpejcpcaaGreatDoor

/- The laws' marks as text. -/
namespace Go.Proofs.YtjckcbfpejcpcaaGreatDoor
open Go.RowKit Go.Sort

/-- a digit's byte -/
def dig8 (k : Nat) : UInt8 := UInt8.ofNat (48 + k % 10)
def mtF : Nat → Nat → ByteArray → ByteArray
  | 0, _, s => s
  | f + 1, k, s => if k = 0 then s else mtF f (k / 10) (⟨#[dig8 k]⟩ ++ s)
theorem mtF_fuel : ∀ f g k s, k ≤ f → k ≤ g → mtF f k s = mtF g k s := by
  intro f
  induction f with
  | zero =>
    intro g k s h _
    obtain rfl : k = 0 := by omega
    cases g with
    | zero => rfl
    | succ g => rw [mtF, mtF, if_pos rfl]
  | succ f ih =>
    intro g k s h1 h2
    cases g with
    | zero =>
      obtain rfl : k = 0 := by omega
      rw [mtF, mtF, if_pos rfl]
    | succ g =>
      rw [mtF, mtF]
      by_cases hk : k = 0
      · rw [if_pos hk, if_pos hk]
      · rw [if_neg hk, if_neg hk, ih g (k / 10) _ (by omega) (by omega)]
def mt (k : Nat) (s : ByteArray) : ByteArray := mtF k k s
theorem mt_zero (s : ByteArray) : mt 0 s = s := rfl
theorem mt_step {k : Nat} (h : 0 < k) (s : ByteArray) : mt k s = mt (k / 10) (⟨#[dig8 k]⟩ ++ s) := by
  unfold mt
  obtain ⟨f, rfl⟩ : ∃ f, k = f + 1 := ⟨k - 1, by omega⟩
  rw [mtF, if_neg (by omega)]
  exact mtF_fuel _ _ _ _ (by omega) (by omega)
/-- the text of a mark -/
def markT (k : Nat) : ByteArray := ⟨#[109]⟩ ++ mt k ⟨#[]⟩
/-- string([]byte{x}) -/
theorem run_one_byte (w : World) (n : Nat) :
    (convert 25 9 (.slice (some ⟨w.heap.size, 0, none⟩) 1 1)).run Tryz.prog (w.alloc (.cells #[.int .u8 (n : Int)] 5)) = .ok (.string ⟨#[UInt8.ofNat n]⟩) (w.alloc (.cells #[.int .u8 (n : Int)] 5)) := by
  have h1 := run_convert_bytes_arg (P := Tryz.prog) (w.alloc (.cells #[.int .u8 (n : Int)] 5)) 25 5 Tryz.underlying25 Tryz.underlying5 w.heap.size 0 1 1 [(n : Int)] rfl (fun i hi => by
    obtain rfl : i = 0 := by omega
    simp) 9 Tryz.underlying9
  rw [h1]
  rfl
set_option maxRecDepth 100000 in
set_option maxHeartbeats 400000 in
theorem markText_c (k : Nat) (w : World) (hk : 0 < k) (hk2 : k ≤ 1099511627776) :
    Gives Tryz.prog 45 #[.int .i64 k] w (.string (markT k)) := by
  go_enter Tryz.func45, Tryz.ntmps45
  go_wp2
  go_loopw [0, 3] (fun kk t wr => ∃ (n : Nat) (s : ByteArray), s.size + n ≤ k ∧ kk = .int .i64 n ∧ t = .string s ∧ Hid (mt n s = mt k ⟨#[]⟩) ∧ Ext w wr) (fun kk _ _ => (intOf kk).toNat)
  case atStart => exact ⟨k, ⟨#[]⟩, Nat.le_of_eq (Nat.zero_add k), rfl, rfl, rfl, Ext.refl _⟩
  case round =>
    obtain ⟨n, s, hn, rfl, rfl, hs, he⟩ := hrel
    by_cases h0 : 0 < n
    · have hst := Lib.hid ((mt_step h0 s).symm.trans hs.out)
      have hcv : ∀ w' : World, (convert 25 9 (.slice (some ⟨w'.heap.size, 0, none⟩) 1 1)).run Tryz.prog (w'.alloc (.cells #[.int .u8 (48 + (n : Int) % 10)] 5)) = .ok (.string ⟨#[dig8 n]⟩) (w'.alloc (.cells #[.int .u8 (48 + (n : Int) % 10)] 5)) := by
        intro w'
        have := run_one_byte w' (48 + n % 10)
        rw [show ((48 + n % 10 : Nat) : Int) = 48 + (n : Int) % 10 by omega] at this
        exact this
      have hcvr := hcv wr
      clear hcv
      go_wp2
      go_roundw
      case rel => exact ⟨n / 10, _, by rw [ByteArray.size_append]; show 1 + s.size + n / 10 ≤ k; omega, by go_num, rfl, hst, Ext_alloc _ he⟩
      case measure => simp [intOf]; omega
    · obtain rfl : n = 0 := by omega
      have hs2 := Lib.hid ((mt_zero s).symm.trans hs.out)
      clear hs
      go_wp2
      go_ret
      exact ⟨by rw [hs2.out]; rfl, he⟩
end Go.Proofs.YtjckcbfpejcpcaaGreatDoor

/- The laws' marks on descriptions and registries: what they leave, and that no other block turns. -/
namespace Go.Proofs.YtjckcbfpejcpcaaGreatDoor
open Go.RowKit Go.Sort

def mkT (k : Nat) (i : Nat) : Value := .string (markT (k + i))
set_option maxHeartbeats 1000000 in
theorem markStringS_c (A : Option Addr) (n c : Nat) (k : Nat) (xs : List Value) (w0 w : World) (ho : Own 9 1 w0 w (.slice A n c) n xs) (hk : 0 < k) (hk2 : k + n ≤ 1099511627776) :
    Calls Tryz.prog 72 #[.slice A n c, .int .i64 k] w fun e w' => e = .returned (.int .i64 ((k + n : Nat) : Int)) ∧ Own 9 1 w0 w' (.slice A n c) n ((List.range n).map (mkT k)) ∧ w.grownBy w' (Value.slice A n c).ownBlock := by
  have hxn : xs.length = n := by have := ho.1; omega
  go_enter Tryz.func72, Tryz.ntmps72
  go_wp2
  go_loopw [1, 5] (fun kk i wr => ∃ j : Nat, j ≤ n ∧ i = .int .i64 j ∧ kk = .int .i64 ((k + j : Nat) : Int) ∧ Own 9 1 w0 wr (.slice A n c) n ((List.range j).map (mkT k) ++ xs.drop j) ∧ w.grownBy wr (Value.slice A n c).ownBlock) (fun _ i _ => n - (intOf i).toNat)
  case atStart => exact ⟨0, by omega, rfl, by simp, by simpa using ho, World.grownBy.refl _ _⟩
  case round =>
    clear ho
    obtain ⟨j, hj, rfl, rfl, ho, hg⟩ := hrel
    by_cases hlt : j < n
    · obtain ⟨g, c', hv, hb, hs⟩ := World.ownsRow.form ho (by omega)
      injection hv with hA _ hc
      subst hA; subst hc
      have HO := Lib.hid ho; have HG := Lib.hid hg
      clear ho hg
      go_wp2_with fail
      refine (markText_c (k + j) _ (by omega) (by omega)).mono ?_; rintro _ w1 ⟨rfl, he1⟩
      have ho1 := Own.ext HO.out he1
      obtain ⟨⟨u0, hu⟩, hf⟩ := ho1.slot j (by simp; omega)
      have hg2 := (HG.out.trans (grown_ext he1 _)).trans (ho1.stored j (mkT k j)).2
      have ho' := (ho1.stored j (mkT k j)).1
      rw [mark_step (mkT k) xs j n hxn hlt] at ho'
      have H1 := Lib.hid ho'; have H3 := Lib.hid hg2
      clear ho1 ho' hg2 HO HG
      go_wp2
      go_roundw
      case rel => exact ⟨j+1, by omega, by go_num, by go_num, H1.out, H3.out⟩
      case measure => simp [intOf]; omega
    · obtain rfl : j = n := by omega
      have H1 := Lib.hid ho; have H3 := Lib.hid hg
      clear ho hg
      go_wp2
      go_ret
      exact ⟨rfl, by have := H1.out; rw [List.drop_of_length_le (by omega)] at this; simpa using this, H3.out⟩
/-- how many marks a rule takes -/
def mlen (r : DRule) : Nat := 4 + r.bytes.length + r.names.length + r.tags.length + r.kids.length
def mkCells (m : Nat × RV) : List Value := [.string (markT m.1), .int .i64 ((m.1 : Int) + 1), .int .i64 ((m.1 : Int) + 2), .bool (((m.1 : Int) + 3) % 3 == 0), m.2.vb, m.2.vn, m.2.vt, m.2.vk]
def msR : Nat → List RV → List (Nat × RV)
  | _, [] => []
  | k, p :: t => (k, p) :: msR (k + mlen p.r) t
def kEndR : Nat → List RV → Nat
  | k, [] => k
  | k, p :: t => kEndR (k + mlen p.r) t
theorem msR_append (k : Nat) (a b : List RV) : msR k (a ++ b) = msR k a ++ msR (kEndR k a) b := by
  induction a generalizing k with
  | nil => rfl
  | cons p t ih => simp [msR, kEndR, ih]
theorem kEndR_append (k : Nat) (a b : List RV) : kEndR k (a ++ b) = kEndR (kEndR k a) b := by
  induction a generalizing k with
  | nil => rfl
  | cons p t ih => simp [kEndR, ih]
theorem msR_length (k : Nat) (a : List RV) : (msR k a).length = a.length := by
  induction a generalizing k with
  | nil => rfl
  | cons p t ih => simp [msR, ih]
theorem mkCells_len (ms : List (Nat × RV)) : (ms.flatMap mkCells).length = ms.length * 8 := by
  induction ms with
  | nil => rfl
  | cons p t ih => rw [List.flatMap_cons, List.length_append, ih, List.length_cons]; simp [mkCells]; omega
theorem kEndR_ge (k : Nat) (a : List RV) : k ≤ kEndR k a := by
  induction a generalizing k with
  | nil => simp [kEndR]
  | cons p t ih => have := ih (k + mlen p.r); simp only [kEndR]; omega
theorem kEndR_mono (k : Nat) (a : List RV) (i : Nat) : kEndR k (a.take i) ≤ kEndR k a := by
  conv => rhs; rw [← List.take_append_drop i a, kEndR_append]
  exact kEndR_ge _ _
theorem kEndR_eq (k : Nat) (a : List RV) : kEndR k a = k + (a.map fun p => mlen p.r).sum := by
  induction a generalizing k with
  | nil => simp [kEndR]
  | cons p t ih => rw [kEndR, ih, List.map_cons, List.sum_cons]; omega
theorem mlen_le (r : DRule) : mlen r ≤ 4 + szRl r := by unfold mlen szRl; omega
theorem kEndR_sz (k : Nat) (a : List RV) : kEndR k a ≤ k + 4 * a.length + ((rulesOf a).map szRl).sum := by
  rw [kEndR_eq]
  induction a with
  | nil => simp [rulesOf]
  | cons p t ih => have := mlen_le p.r; simp only [List.map_cons, List.sum_cons, List.length_cons, rulesOf] at *; omega
/-- four cells of a rule are laid -/
theorem mark_rowR (ms : List (Nat × RV)) (p : RV) (rest : List RV) (k i : Nat) (hi : ms.length = i) :
    ((((ms.flatMap mkCells ++ (p :: rest).flatMap RV.cells).set (i * 8) (.string (markT k))).set (i * 8 + 1) (.int .i64 ((k : Int) + 1))).set (i * 8 + 2) (.int .i64 ((k : Int) + 2))).set (i * 8 + 3) (.bool (((k : Int) + 3) % 3 == 0)) = (ms ++ [(k, p)]).flatMap mkCells ++ rest.flatMap RV.cells := by
  have hl : (ms.flatMap mkCells).length = i * 8 := by rw [mkCells_len, hi]
  rw [List.set_append_right _ _ (by omega), List.set_append_right _ _ (by omega), List.set_append_right _ _ (by omega), List.set_append_right _ _ (by omega), hl]
  rw [show i * 8 - i * 8 = 0 by omega, show i * 8 + 1 - i * 8 = 1 by omega, show i * 8 + 2 - i * 8 = 2 by omega, show i * 8 + 3 - i * 8 = 3 by omega]
  simp [RV.cells, mkCells, List.flatMap_cons]
theorem mk_getR (ms : List (Nat × RV)) (k : Nat) (p : RV) (rest : List Value) (i m : Nat) (hi : ms.length = i) (hm : m < 8) :
    ((ms ++ [(k, p)]).flatMap mkCells ++ rest)[i * 8 + m]? = (mkCells (k, p))[m]? := by
  have hl : (ms.flatMap mkCells).length = i * 8 := by rw [mkCells_len, hi]
  rw [List.flatMap_append, List.flatMap_cons, List.flatMap_nil, List.append_nil, List.append_assoc, List.getElem?_append_right (by omega), hl, show i * 8 + m - i * 8 = m by omega, List.getElem?_append_left (by simp [mkCells]; omega)]
/-- a rule's slices, marked from k on -/
structure RuleMarked (w0 w : World) (k : Nat) (p : RV) : Prop where
  b : Own 5 1 w0 w p.vb p.r.bytes.length ((List.range p.r.bytes.length).map (mk8 ((k : Int) + 4)))
  n : Own 9 1 w0 w p.vn p.r.names.length ((List.range p.r.names.length).map (mkT (k + 4 + p.r.bytes.length)))
  t : Own 3 1 w0 w p.vt p.r.tags.length ((List.range p.r.tags.length).map (mkI ((k + 4 + p.r.bytes.length + p.r.names.length : Nat) : Int)))
  k : Own 3 1 w0 w p.vk p.r.kids.length ((List.range p.r.kids.length).map (mkI ((k + 4 + p.r.bytes.length + p.r.names.length + p.r.tags.length : Nat) : Int)))
theorem RuleMarked.keep {w0 w w' : World} {k : Nat} {p : RV} (h : RuleMarked w0 w k p) {row : Option Nat} (hg : w.grownBy w' row) (hne : ∀ v ∈ p.vals, ∀ g, v.ownBlock = some g → row ≠ some g) : RuleMarked w0 w' k p :=
  ⟨h.b.keep hg (hne _ (by simp [RV.vals])), h.n.keep hg (hne _ (by simp [RV.vals])), h.t.keep hg (hne _ (by simp [RV.vals])), h.k.keep hg (hne _ (by simp [RV.vals]))⟩
theorem RuleMarked.ext {w0 w w' : World} {k : Nat} {p : RV} (h : RuleMarked w0 w k p) (e : Ext w w') : RuleMarked w0 w' k p := ⟨h.b.ext e, h.n.ext e, h.t.ext e, h.k.ext e⟩
/-- marked rules that the call since w0 made: the first i of them are marked -/
structure MarkingR (w0 w : World) (g c : Nat) (ps : List RV) (k i : Nat) : Prop where
  row : Own 97 8 w0 w (.slice (some ⟨g, 0, none⟩) ps.length c) ps.length ((msR k (ps.take i)).flatMap mkCells ++ (ps.drop i).flatMap RV.cells)
  done : ∀ j (h : j < ps.length), j < i → RuleMarked w0 w (kEndR k (ps.take j)) ps[j]
  todo : ∀ j (h : j < ps.length), i ≤ j → RuleOwn w0 w ps[j]
theorem far_parts {v : Value} {ps : List RV} (h : Far (v :: ps.flatMap RV.vals)) :
    (∀ j (hj : j < ps.length), ∀ u ∈ ps[j].vals, ∀ g, v.ownBlock = some g → u.ownBlock ≠ some g) ∧ (∀ i j (hi : i < ps.length) (hj : j < ps.length), i ≠ j → ∀ u ∈ ps[i].vals, ∀ x ∈ ps[j].vals, ∀ g, u.ownBlock = some g → x.ownBlock ≠ some g) ∧ (∀ j (hj : j < ps.length), Far ps[j].vals) := by
  unfold Far at h
  rw [List.pairwise_cons] at h
  obtain ⟨h1, h2⟩ := h
  rw [List.pairwise_flatMap] at h2
  refine ⟨fun j hj u hu g hg => h1 u (List.mem_flatMap.2 ⟨_, List.getElem_mem hj, hu⟩) g hg, fun i j hi hj hne u hu x hx g hg hg' => ?_, fun j hj => h2.1 _ (List.getElem_mem hj)⟩
  have hp := List.pairwise_iff_getElem.1 h2.2
  rcases Nat.lt_or_ge i j with hlt | hge
  · exact hp i j hi hj hlt u hu x hx g hg hg'
  · exact hp j i hj hi (by omega) x hx u hu g hg' hg
theorem far4 {p : RV} (h : Far p.vals) : (∀ g, p.vb.ownBlock = some g → p.vn.ownBlock ≠ some g) ∧ (∀ g, p.vb.ownBlock = some g → p.vt.ownBlock ≠ some g) ∧ (∀ g, p.vb.ownBlock = some g → p.vk.ownBlock ≠ some g) ∧
    (∀ g, p.vn.ownBlock = some g → p.vt.ownBlock ≠ some g) ∧ (∀ g, p.vn.ownBlock = some g → p.vk.ownBlock ≠ some g) ∧ (∀ g, p.vt.ownBlock = some g → p.vk.ownBlock ≠ some g) := by
  unfold Far RV.vals at h
  rw [List.pairwise_cons, List.pairwise_cons, List.pairwise_cons] at h
  obtain ⟨h1, h2, h3, _⟩ := h
  exact ⟨fun g hg => h1 _ (by simp) g hg, fun g hg => h1 _ (by simp) g hg, fun g hg => h1 _ (by simp) g hg, fun g hg => h2 _ (by simp) g hg, fun g hg => h2 _ (by simp) g hg, fun g hg => h3 _ (by simp) g hg⟩
theorem len_mlen : ∀ ps : List RV, ps.length ≤ (ps.map fun p => mlen p.r).sum
  | [] => by simp
  | p :: t => by
    have := len_mlen t
    have h : 1 ≤ mlen p.r := by unfold mlen; omega
    simp only [List.map_cons, List.sum_cons, List.length_cons]; omega
theorem cells_getR (ms : List (Nat × RV)) (p : RV) (rest : List RV) (i m : Nat) (hi : ms.length = i) (hm : m < 8) :
    (ms.flatMap mkCells ++ (p :: rest).flatMap RV.cells)[i * 8 + m]? = p.cells[m]? := by
  have hl : (ms.flatMap mkCells).length = i * 8 := by rw [mkCells_len, hi]
  rw [List.getElem?_append_right (by omega), hl, show i * 8 + m - i * 8 = m by omega, List.flatMap_cons, List.getElem?_append_left (by simp [RV.cells]; omega)]
end Go.Proofs.YtjckcbfpejcpcaaGreatDoor

/- The laws' marks laid over registries. -/
namespace Go.Proofs.YtjckcbfpejcpcaaGreatDoor
open Go.RowKit Go.Sort

/-- w' is w with new blocks, and writes to blocks of B -/
structure WroteB (B : Nat → Prop) (w w' : World) : Prop where
  os : w'.os = w.os
  tape : w'.tape = w.tape
  output : w'.output = w.output
  size : w.heap.size ≤ w'.heap.size
  block : ∀ k, k < w.heap.size → ¬ B k → w'.heap[k]? = w.heap[k]?
theorem WroteB.refl (B : Nat → Prop) (w : World) : WroteB B w w := ⟨rfl, rfl, rfl, Nat.le_refl _, fun _ _ _ => rfl⟩
theorem WroteB.trans {B : Nat → Prop} {a b c : World} (h : WroteB B a b) (k : WroteB B b c) : WroteB B a c :=
  ⟨k.os.trans h.os, k.tape.trans h.tape, k.output.trans h.output, Nat.le_trans h.size k.size, fun i hi hb => (k.block i (Nat.lt_of_lt_of_le hi h.size) hb).trans (h.block i hi hb)⟩
theorem WroteB.mono {B C : Nat → Prop} {a b : World} (h : WroteB B a b) (hC : ∀ k, B k → C k) : WroteB C a b := ⟨h.os, h.tape, h.output, h.size, fun i hi hb => h.block i hi (fun hB => hb (hC i hB))⟩
theorem WroteB.grown {B : Nat → Prop} {w w' : World} {row : Option Nat} (h : w.grownBy w' row) (hr : ∀ g, row = some g → B g) : WroteB B w w' :=
  ⟨h.os, h.tape, h.output, h.size, fun i hi hb => h.block i hi (fun e => hb (hr i e.symm))⟩
theorem WroteB.ext {B : Nat → Prop} {w w' : World} (e : Ext w w') : WroteB B w w' := ⟨e.os, e.tape, e.output, e.size, fun i hi _ => Below.block e i hi⟩
theorem WroteB.wrote {B : Nat → Prop} {lo hi : Nat} {w w' : World} (h : WroteB B w w') (hB : ∀ k, B k → lo ≤ k ∧ k < hi) : Wrote lo hi w w' :=
  ⟨h.os, h.tape, h.output, h.size, fun k hk hn => h.block k hk (fun hb => by have := hB k hb; omega)⟩
theorem Own.wroteB {e : TypeId} {size : Nat} {w0 w w' : World} {v : Value} {n : Nat} {xs : List Value} (h : Own e size w0 w v n xs) {B : Nat → Prop} (hw : WroteB B w w') (hv : ∀ g, v.ownBlock = some g → ¬ B g) : Own e size w0 w' v n xs := by
  refine ⟨h.1, ?_⟩
  rcases h.2 with h0 | ⟨g, cap, cur, rfl, hb, hg, r⟩
  · exact .inl h0
  · exact .inr ⟨g, cap, cur, rfl, hb, (hw.block g (Array.getElem?_eq_some_iff.1 hg).1 (hv g rfl)).trans hg, r⟩
theorem OwnL.wroteB {α : Type} {f : α → Value} {e : TypeId} {w0 w w' : World} {v : Value} {l : List α} (h : OwnL f e w0 w v l) {B : Nat → Prop} (hw : WroteB B w w') (hv : ∀ g, v.ownBlock = some g → ¬ B g) : OwnL f e w0 w' v l := Own.wroteB h hw hv
theorem RuleOwn.wroteB {w0 w w' : World} {p : RV} (h : RuleOwn w0 w p) {B : Nat → Prop} (hw : WroteB B w w') (hv : ∀ v ∈ p.vals, ∀ g, v.ownBlock = some g → ¬ B g) : RuleOwn w0 w' p :=
  ⟨h.b.wroteB hw (hv _ (by simp [RV.vals])), h.n.wroteB hw (hv _ (by simp [RV.vals])), h.t.wroteB hw (hv _ (by simp [RV.vals])), h.k.wroteB hw (hv _ (by simp [RV.vals]))⟩
theorem OwnD.wroteB {w0 w w' : World} {v : Value} {ps : List RV} (h : OwnD w0 w v ps) {B : Nat → Prop} (hw : WroteB B w w') (hv : ∀ u ∈ v :: ps.flatMap RV.vals, ∀ g, u.ownBlock = some g → ¬ B g) : OwnD w0 w' v ps :=
  ⟨h.row.wroteB hw (hv _ (by simp)), fun p hp => (h.each p hp).wroteB hw (fun u hu => hv u (List.mem_cons_of_mem _ (List.mem_flatMap.2 ⟨p, hp, hu⟩))), h.far⟩
set_option maxRecDepth 100000 in
set_option maxHeartbeats 8000000 in
theorem markRuleS_b (g c : Nat) (ps : List RV) (k : Nat) (w0 w : World) (B : Nat → Prop) (h : OwnD w0 w (.slice (some ⟨g, 0, none⟩) ps.length c) ps) (hB : ∀ u ∈ (Value.slice (some ⟨g, 0, none⟩) ps.length c) :: ps.flatMap RV.vals, ∀ b, u.ownBlock = some b → B b) (hk : 0 < k) (hk2 : kEndR k ps ≤ 1099511627776) (hs : ∀ p ∈ ps, ShortR p.r) :
    Calls Tryz.prog 42 #[.slice (some ⟨g, 0, none⟩) ps.length c, .int .i64 k] w fun e w' => e = .returned (.int .i64 (kEndR k ps : Nat)) ∧ MarkingR w0 w' g c ps k ps.length ∧ WroteB B w w' := by
  obtain ⟨f1, f2, f3⟩ := far_parts h.far
  have HF1 := Lib.hid (fun j hj u hu => f1 j hj u hu g rfl); have HF2 := Lib.hid f2; have HF3 := Lib.hid f3
  have hgB := hB _ (List.mem_cons_self ..) g rfl
  have HB : Hid (∀ p ∈ ps, ∀ v ∈ p.vals, ∀ b, v.ownBlock = some b → B b) := fun p hp v hv b hb => hB v (List.mem_cons_of_mem _ (List.mem_flatMap.2 ⟨p, hp, hv⟩)) b hb
  have HM : Hid (MarkingR w0 w g c ps k 0) := ⟨by simpa [msR] using h.row, fun j _ hj => by omega, fun j hj _ => h.each _ (List.getElem_mem hj)⟩
  have hn : ps.length ≤ 140737488351232 := by
    rw [kEndR_eq] at hk2
    have := len_mlen ps
    omega
  clear h f1 f2 f3 hB
  go_enter Tryz.func42, Tryz.ntmps42
  go_wp2
  go_loopw [1, 5] (fun kk i wr => ∃ j : Nat, j ≤ ps.length ∧ i = .int .i64 j ∧ kk = .int .i64 (kEndR k (ps.take j) : Nat) ∧ Hid (MarkingR w0 wr g c ps k j) ∧ WroteB B w wr) (fun _ i _ => ps.length - (intOf i).toNat)
  case atStart => exact ⟨0, by omega, rfl, rfl, HM, WroteB.refl _ _⟩
  case round =>
    clear HM
    obtain ⟨j, hj, rfl, rfl, hm, hw⟩ := hrel
    by_cases hlt : j < ps.length
    · have HKn : Hid (kEndR k (ps.take (j+1)) = kEndR k (ps.take j) + mlen ps[j].r) := by
        show _ = _; rw [List.take_succ_eq_append_getElem hlt, kEndR_append]; rfl
      have hKe := kEndR_mono k ps (j+1)
      rw [HKn.out] at hKe
      have hK0 := kEndR_ge k (ps.take j)
      have hsj := hs _ (List.getElem_mem hlt)
      have hbj := HB.out _ (List.getElem_mem hlt)
      obtain ⟨m1, m2, m3⟩ := hm.out
      have hrj := m3 j hlt (Nat.le_refl _)
      have hdrop : ps.drop j = ps[j] :: ps.drop (j+1) := List.drop_eq_getElem_cons hlt
      rw [hdrop] at m1
      have hml : (msR k (ps.take j)).length = j := by rw [msR_length, List.length_take]; omega
      have hrow := mark_rowR (msR k (ps.take j)) ps[j] (ps.drop (j+1)) (kEndR k (ps.take j)) j hml
      have hnext : msR k (ps.take j) ++ [(kEndR k (ps.take j), ps[j])] = msR k (ps.take (j+1)) := by
        rw [List.take_succ_eq_append_getElem hlt, msR_append]; rfl
      have hget := fun m hm => mk_getR (msR k (ps.take j)) (kEndR k (ps.take j)) ps[j] ((ps.drop (j+1)).flatMap RV.cells) j m hml hm
      have HF1j := Lib.hid (HF1.out j hlt)
      have HF2j : Hid (∀ i (hi : i < ps.length), i ≠ j → ∀ u ∈ ps[i].vals, ∀ x ∈ ps[j].vals, ∀ b, x.ownBlock = some b → u.ownBlock ≠ some b) := fun i hi hne u hu x hx b hb hb' => HF2.out i j hi hlt hne u hu x hx b hb' hb
      have HF3j := Lib.hid (HF3.out j hlt)
      have HNX : Hid (MarkingR w0 wr g c ps k j) := hm
      rw [hnext] at hrow hget
      obtain ⟨K, hK⟩ : ∃ K, kEndR k (ps.take j) = K := ⟨_, rfl⟩
      rw [hK] at hrow hget hKe hK0 HKn
      have HK := Lib.hid hK
      have hgx := cells_getR (msR k (ps.take j)) ps[j] (ps.drop (j+1)) j 4 hml (by omega)
      obtain ⟨xs, hxs⟩ : ∃ xs, (msR k (ps.take j)).flatMap mkCells ++ (ps[j] :: ps.drop (j+1)).flatMap RV.cells = xs := ⟨_, rfl⟩
      rw [hxs] at m1 hrow hgx
      simp only [RV.cells, List.getElem?_cons_succ, List.getElem?_cons_zero] at hgx
      obtain ⟨ys, hys⟩ : ∃ ys, (msR k (ps.take (j+1))).flatMap mkCells ++ (ps.drop (j+1)).flatMap RV.cells = ys := ⟨_, rfl⟩
      have HYS := Lib.hid hys
      rw [hys] at hrow hget
      have hxl : xs.length = ps.length * 8 := m1.1
      obtain ⟨Ab, cb, An, cn, At, ct, Ak, ck, v1, v2, v3, v4, _⟩ := hrj.rd hsj
      have HG4 := hget 4 (by omega); have HG5 := hget 5 (by omega); have HG6 := hget 6 (by omega); have HG7 := hget 7 (by omega)
      simp only [mkCells, List.getElem?_cons_succ, List.getElem?_cons_zero] at HG4 HG5 HG6 HG7
      rw [v1] at hgx
      have HGX := Lib.hid hgx
      rw [v1] at HG4; rw [v2] at HG5; rw [v3] at HG6; rw [v4] at HG7
      have L4 := Lib.hid HG4; have L5 := Lib.hid HG5; have L6 := Lib.hid HG6; have L7 := Lib.hid HG7
      have HR := Lib.hid hrow; have Hm1 := Lib.hid m1; have Hm2 := Lib.hid m2; have Hm3 := Lib.hid m3; have HXL := Lib.hid hxl; have V1 := Lib.hid v1; have V2 := Lib.hid v2; have V3 := Lib.hid v3; have V4 := Lib.hid v4
      have HBJ := Lib.hid hbj; have HRJ := Lib.hid hrj
      have hmlen : mlen ps[j].r = 4 + ps[j].r.bytes.length + ps[j].r.names.length + ps[j].r.tags.length + ps[j].r.kids.length := rfl
      have HML := Lib.hid hmlen
      rw [hmlen] at hKe
      have HSJ := Lib.hid hsj
      have MT : Hid (∀ w, Gives Tryz.prog 45 #[.int .i64 (K : Int)] w (.string (markT K))) := fun w => markText_c K w (by omega) (by omega)
      rw [hK]
      clear hgx hrow m1 m2 m3 hxs hys hget HG4 HG5 HG6 HG7 v1 v2 v3 v4 hdrop hml hnext hK hxl hbj hrj hmlen hsj hm
      have hr0 := Hm1.out
      have hxl := HXL.out
      go_wp2_with fail
      refine (MT.out _).mono ?_; rintro _ w1 ⟨rfl, he1⟩
      have hr1 := Own.ext Hm1.out he1
      obtain ⟨⟨u0, hu0⟩, hf0⟩ := hr1.slot (j * 8) (by rw [hxl]; omega)
      obtain ⟨⟨u1, hu1⟩, hf1⟩ := hr1.slot (j * 8 + 1) (by rw [hxl]; omega)
      obtain ⟨⟨u2, hu2⟩, hf2⟩ := hr1.slot (j * 8 + 2) (by rw [hxl]; omega)
      obtain ⟨⟨u3, hu3⟩, hf3⟩ := hr1.slot (j * 8 + 3) (by rw [hxl]; omega)
      have hu4 : w1.cell? ⟨g, j * 8 + 4, none⟩ = some (.slice Ab ps[j].r.bytes.length cb) := by rw [hr1.cellAt (j * 8 + 4) (by omega)]; exact HGX.out
      have HO1 : Hid (Own 97 8 w0 ((((w1.setCell ⟨g, j * 8, none⟩ (.string (markT K))).setCell ⟨g, j * 8 + 1, none⟩ (.int .i64 ((K : Int) + 1))).setCell ⟨g, j * 8 + 2, none⟩ (.int .i64 ((K : Int) + 2))).setCell ⟨g, j * 8 + 3, none⟩ (.bool (((K : Int) + 3) % 3 == 0))) (.slice (some ⟨g, 0, none⟩) ps.length c) ps.length ys) := by
        have := (((hr1.stored (j * 8) (.string (markT K))).1.stored (j * 8 + 1) (.int .i64 ((K : Int) + 1))).1.stored (j * 8 + 2) (.int .i64 ((K : Int) + 2))).1.stored (j * 8 + 3) (.bool (((K : Int) + 3) % 3 == 0))
        have := this.1
        rw [HR.out] at this
        exact this
      have G1 : Hid (wr.grownBy ((((w1.setCell ⟨g, j * 8, none⟩ (.string (markT K))).setCell ⟨g, j * 8 + 1, none⟩ (.int .i64 ((K : Int) + 1))).setCell ⟨g, j * 8 + 2, none⟩ (.int .i64 ((K : Int) + 2))).setCell ⟨g, j * 8 + 3, none⟩ (.bool (((K : Int) + 3) % 3 == 0))) (some g)) :=
        ((((grown_ext he1 (some g)).trans (grown_set _ ⟨g, j * 8, none⟩ _)).trans (grown_set _ ⟨g, j * 8 + 1, none⟩ _)).trans (grown_set _ ⟨g, j * 8 + 2, none⟩ _)).trans (grown_set _ ⟨g, j * 8 + 3, none⟩ _)
      clear hr1 hr0
      go_wp2_with fail
      rw [show (K : Int) + 1 + 1 + 1 + 1 = (K : Int) + 4 by omega, show (K : Int) + 1 + 1 + 1 = (K : Int) + 3 by omega, show (K : Int) + 1 + 1 = (K : Int) + 2 by omega]
      generalize ((((w1.setCell ⟨g, j * 8, none⟩ (.string (markT K))).setCell ⟨g, j * 8 + 1, none⟩ (.int .i64 ((K : Int) + 1))).setCell ⟨g, j * 8 + 2, none⟩ (.int .i64 ((K : Int) + 2))).setCell ⟨g, j * 8 + 3, none⟩ (.bool (((K : Int) + 3) % 3 == 0))) = W1 at *
      clear hu0 hu1 hu2 hu3 hf0 hf1 hf2 hf3 hu4
      have R1 := Lib.hid (HRJ.out.keep G1.out (fun v hv b hb he => HF1j.out v hv (hb.trans he.symm)))
      obtain ⟨d1, d2, d3, d4, d5, d6⟩ := far4 HF3j.out
      have D1 := Lib.hid d1; have D2 := Lib.hid d2; have D3 := Lib.hid d3; have D4 := Lib.hid d4; have D5 := Lib.hid d5; have D6 := Lib.hid d6
      clear d1 d2 d3 d4 d5 d6
      have ob := R1.out.b
      rw [V1.out] at ob
      refine (markByteS_c Ab _ cb ((K : Int) + 4) _ w0 _ ob (by omega) (by omega)).mono ?_; rintro _ w2 ⟨rfl, om1, g2⟩
      rw [← V1.out] at om1 g2
      have M1 := Lib.hid om1; have G2 := Lib.hid g2
      have HO2 := Lib.hid (HO1.out.keep g2 (fun b hb he => HF1j.out ps[j].vb (by simp [RV.vals]) (he.trans hb.symm)))
      have c5 : w2.cell? ⟨g, j * 8 + 5, none⟩ = some (.slice An ps[j].r.names.length cn) := by rw [HO2.out.cellAt (j * 8 + 5) (by omega)]; exact L5.out
      clear ob om1 g2
      go_wp2_with fail
      rw [show (K : Int) + 4 + (ps[j].r.bytes.length : Int) = ((K + 4 + ps[j].r.bytes.length : Nat) : Int) by omega]
      have on := R1.out.n.keep G2.out (fun b hb he => D1.out b he hb)
      rw [V2.out] at on
      refine (markStringS_c An _ cn (K + 4 + ps[j].r.bytes.length) _ w0 _ on (by omega) (by omega)).mono ?_; rintro _ w3 ⟨rfl, om2, g3⟩
      rw [← V2.out] at om2 g3
      have M2 := Lib.hid om2; have G3 := Lib.hid g3
      have HO3 := Lib.hid (HO2.out.keep g3 (fun b hb he => HF1j.out ps[j].vn (by simp [RV.vals]) (he.trans hb.symm)))
      have c6 : w3.cell? ⟨g, j * 8 + 6, none⟩ = some (.slice At ps[j].r.tags.length ct) := by rw [HO3.out.cellAt (j * 8 + 6) (by omega)]; exact L6.out
      clear on om2 g3 c5
      go_wp2_with fail
      have ot := (R1.out.t.keep G2.out (fun b hb he => D2.out b he hb)).keep G3.out (fun b hb he => D4.out b he hb)
      rw [V3.out] at ot
      refine (markIntS_c At _ ct ((K + 4 + ps[j].r.bytes.length + ps[j].r.names.length : Nat) : Int) _ w0 _ ot (by omega) (by omega)).mono ?_; rintro _ w4 ⟨rfl, om3, g4⟩
      rw [← V3.out] at om3 g4
      have M3 := Lib.hid om3; have G4 := Lib.hid g4
      have HO4 := Lib.hid (HO3.out.keep g4 (fun b hb he => HF1j.out ps[j].vt (by simp [RV.vals]) (he.trans hb.symm)))
      have c7 : w4.cell? ⟨g, j * 8 + 7, none⟩ = some (.slice Ak ps[j].r.kids.length ck) := by rw [HO4.out.cellAt (j * 8 + 7) (by omega)]; exact L7.out
      clear ot om3 g4 c6
      go_wp2_with fail
      first
        | rw [show ((K + 4 + ps[j].r.bytes.length + ps[j].r.names.length : Nat) : Int) + (ps[j].r.tags.length : Int) = ((K + 4 + ps[j].r.bytes.length + ps[j].r.names.length + ps[j].r.tags.length : Nat) : Int) by omega]
        | rw [show (K : Int) + 4 + (ps[j].r.bytes.length : Int) + (ps[j].r.names.length : Int) + (ps[j].r.tags.length : Int) = ((K + 4 + ps[j].r.bytes.length + ps[j].r.names.length + ps[j].r.tags.length : Nat) : Int) by omega]
        | trace_state
      have okk := ((R1.out.k.keep G2.out (fun b hb he => D3.out b he hb)).keep G3.out (fun b hb he => D5.out b he hb)).keep G4.out (fun b hb he => D6.out b he hb)
      rw [V4.out] at okk
      refine (markIntS_c Ak _ ck ((K + 4 + ps[j].r.bytes.length + ps[j].r.names.length + ps[j].r.tags.length : Nat) : Int) _ w0 _ okk (by omega) (by omega)).mono ?_; rintro _ w5 ⟨rfl, om4, g5⟩
      rw [← V4.out] at om4 g5
      have M4 := Lib.hid om4; have G5 := Lib.hid g5
      have HO5 := Lib.hid (HO4.out.keep g5 (fun b hb he => HF1j.out ps[j].vk (by simp [RV.vals]) (he.trans hb.symm)))
      clear okk om4 g5 c7
      have hfin : MarkingR w0 w5 g c ps k (j + 1) := by
        refine ⟨by rw [HYS.out]; exact HO5.out, fun i hi' hij => ?_, fun i hi' hij => ?_⟩
        · rcases Nat.lt_or_ge i j with hlt' | hge
          · have q := HF2j.out i hi' (by omega)
            exact ((((((Hm2.out i hi' hlt').keep G1.out (fun v hv b hb he => HF1.out i hi' v hv (hb.trans he.symm))).keep G2.out (fun v hv b hb he => q v hv _ (by simp [RV.vals]) b he hb)).keep G3.out (fun v hv b hb he => q v hv ps[j].vn (by simp [RV.vals]) b he hb)).keep G4.out (fun v hv b hb he => q v hv ps[j].vt (by simp [RV.vals]) b he hb)).keep G5.out (fun v hv b hb he => q v hv ps[j].vk (by simp [RV.vals]) b he hb))
          · obtain rfl : i = j := by omega
            rw [HK.out]
            exact ⟨((M1.out.keep G3.out D1.out).keep G4.out D2.out).keep G5.out D3.out, (M2.out.keep G4.out D4.out).keep G5.out D5.out, M3.out.keep G5.out D6.out, M4.out⟩
        · have q := HF2j.out i hi' (by omega)
          exact ((((((Hm3.out i hi' (by omega)).keep G1.out (fun v hv b hb he => HF1.out i hi' v hv (hb.trans he.symm))).keep G2.out (fun v hv b hb he => q v hv _ (by simp [RV.vals]) b he hb)).keep G3.out (fun v hv b hb he => q v hv ps[j].vn (by simp [RV.vals]) b he hb)).keep G4.out (fun v hv b hb he => q v hv ps[j].vt (by simp [RV.vals]) b he hb)).keep G5.out (fun v hv b hb he => q v hv ps[j].vk (by simp [RV.vals]) b he hb))
      have HFIN := Lib.hid hfin
      have HWR : Hid (WroteB B w w5) := (((((hw.trans (WroteB.grown G1.out (fun b hb => by injection hb with hb; subst hb; exact hgB))).trans (WroteB.grown G2.out (fun b hb => HBJ.out _ (by simp [RV.vals]) b hb))).trans (WroteB.grown G3.out (fun b hb => HBJ.out _ (by simp [RV.vals]) b hb))).trans (WroteB.grown G4.out (fun b hb => HBJ.out _ (by simp [RV.vals]) b hb))).trans (WroteB.grown G5.out (fun b hb => HBJ.out _ (by simp [RV.vals]) b hb)))
      clear hfin
      go_wp2
      go_roundw
      case rel => exact ⟨j + 1, by omega, by go_num, by rw [HKn.out, HML.out]; go_num, HFIN, HWR.out⟩
      case measure => simp [intOf]; omega
    · obtain rfl : j = ps.length := by omega
      go_wp2
      go_ret
      rw [List.take_length]
      exact ⟨rfl, hm.out, hw⟩
/-- .. of a nil slice too -/
theorem markRuleS_any (v : Value) (ps : List RV) (k : Nat) (w0 w : World) (B : Nat → Prop) (h : OwnD w0 w v ps) (hB : ∀ u ∈ v :: ps.flatMap RV.vals, ∀ b, u.ownBlock = some b → B b) (hk : 0 < k) (hk2 : kEndR k ps ≤ 1099511627776) (hs : ∀ p ∈ ps, ShortR p.r) :
    Calls Tryz.prog 42 #[v, .int .i64 k] w fun e w' => e = .returned (.int .i64 (kEndR k ps : Nat)) ∧ WroteB B w w' := by
  rcases h.row.2 with ⟨hv, h0⟩ | ⟨g, cap, cur, hv, _⟩
  · subst hv
    obtain rfl : ps = [] := List.eq_nil_of_length_eq_zero h0
    have hk64 : (k : Int) ≤ 1099511627776 := by unfold kEndR at hk2; omega
    clear h hB hk2 hs h0
    show Calls _ _ _ _ _
    go_enter Tryz.func42, Tryz.ntmps42
    go_wp2
    go_loopw [1, 5] (fun kk i wr => i = .int .i64 0 ∧ kk = .int .i64 k ∧ WroteB B w wr) (fun _ _ _ => 0)
    case atStart => exact ⟨rfl, rfl, WroteB.refl _ _⟩
    case round =>
      obtain ⟨rfl, rfl, he'⟩ := hrel
      go_wp2
      go_ret
      exact ⟨rfl, he'⟩
  · subst hv
    exact (markRuleS_b g cap ps k w0 w B h hB hk hk2 hs).mono fun e w' ⟨a, _, b⟩ => ⟨a, b⟩
def kEndG : Nat → List (Value × List RV) → Nat
  | k, [] => k
  | k, q :: t => kEndG (kEndR k q.2) t
theorem kEndG_append (k : Nat) (a b : List (Value × List RV)) : kEndG k (a ++ b) = kEndG (kEndG k a) b := by
  induction a generalizing k with
  | nil => rfl
  | cons p t ih => simp [kEndG, ih]
theorem kEndG_ge (k : Nat) (a : List (Value × List RV)) : k ≤ kEndG k a := by
  induction a generalizing k with
  | nil => simp [kEndG]
  | cons p t ih => have := ih (kEndR k p.2); have := kEndR_ge k p.2; simp only [kEndG]; omega
theorem kEndG_mono (k : Nat) (a : List (Value × List RV)) (i : Nat) : kEndG k (a.take i) ≤ kEndG k a := by
  conv => rhs; rw [← List.take_append_drop i a, kEndG_append]
  exact kEndG_ge _ _
theorem kEndR_le (k : Nat) (ps : List RV) : kEndR k ps ≤ k + 4 * szD (rulesOf ps) := by
  have := kEndR_sz k ps
  unfold szD; rw [rulesOf_len]; omega
theorem kEndG_le (k : Nat) (a : List (Value × List RV)) : kEndG k a ≤ k + 4 * ((descsOf a).map szD).sum := by
  induction a generalizing k with
  | nil => simp [kEndG]
  | cons p t ih => have := ih (kEndR k p.2); have := kEndR_le k p.2; simp only [kEndG, descsOf, List.map_cons, List.sum_cons] at *; omega
/-- a registry copied by a law -/
structure GMade (lo hi : Nat) (w : World) (v : Value) (qs : List (Value × List RV)) : Prop where
  own : ∃ w0 : World, w0.heap.size = lo ∧ OwnG w0 w v qs
  blk : ∀ u ∈ v :: (qs.flatMap fun q => q.1 :: q.2.flatMap RV.vals), ∀ b, u.ownBlock = some b → lo ≤ b ∧ b < hi
theorem GMade.ext {lo hi : Nat} {w w' : World} {v : Value} {qs : List (Value × List RV)} (h : GMade lo hi w v qs) (e : Ext w w') : GMade lo hi w' v qs := ⟨let ⟨w0, h0, h1⟩ := h.own; ⟨w0, h0, h1.ext e⟩, h.blk⟩
/-- the blocks of the versions, without the registry's own row -/
def inG (qs : List (Value × List RV)) (b : Nat) : Prop := ∃ q ∈ qs, ∃ u ∈ q.1 :: q.2.flatMap RV.vals, u.ownBlock = some b
theorem farG_parts {v : Value} {qs : List (Value × List RV)} (h : Far (v :: qs.flatMap fun q => q.1 :: q.2.flatMap RV.vals)) :
    (∀ g, v.ownBlock = some g → ¬ inG qs g) ∧ (∀ i j (hi : i < qs.length) (hj : j < qs.length), i ≠ j → ∀ u ∈ qs[i].1 :: qs[i].2.flatMap RV.vals, ∀ x ∈ qs[j].1 :: qs[j].2.flatMap RV.vals, ∀ g, u.ownBlock = some g → x.ownBlock ≠ some g) := by
  unfold Far at h
  rw [List.pairwise_cons] at h
  obtain ⟨h1, h2⟩ := h
  rw [List.pairwise_flatMap] at h2
  refine ⟨fun g hg ⟨q, hq, u, hu, hb⟩ => h1 u (List.mem_flatMap.2 ⟨q, hq, hu⟩) g hg hb, fun i j hi hj hne u hu x hx g hg hg' => ?_⟩
  have hp := List.pairwise_iff_getElem.1 h2.2
  rcases Nat.lt_or_ge i j with hlt | hge
  · exact hp i j hi hj hlt u hu x hx g hg hg'
  · exact hp j i hj hi (by omega) x hx u hu g hg' hg
end Go.Proofs.YtjckcbfpejcpcaaGreatDoor

/- Values as data: trees of a number, bytes and items; how they lie in memory. -/
namespace Go.Proofs.YtjckcbfpejcpcaaGreatDoor
open Go.RowKit Go.Sort

inductive DVal where
  | mk (num : Int) (bytes : List UInt8) (items : List DVal)
def DVal.num : DVal → Int | .mk n _ _ => n
def DVal.bytes : DVal → List UInt8 | .mk _ b _ => b
def DVal.items : DVal → List DVal | .mk _ _ l => l
theorem DVal.eta (v : DVal) : DVal.mk v.num v.bytes v.items = v := by cases v; rfl
theorem DVal.ext' {u v : DVal} (h1 : u.num = v.num) (h2 : u.bytes = v.bytes) (h3 : u.items = v.items) : u = v := by rw [← u.eta, ← v.eta, h1, h2, h3]
theorem DVal.ind {P : DVal → Prop} (h : ∀ v, (∀ x ∈ v.items, P x) → P v) (v : DVal) : P v :=
  DVal.rec (motive_1 := P) (motive_2 := fun l => ∀ x ∈ l, P x) (fun n b its ih => h (.mk n b its) ih) (fun x hx => by cases hx)
    (fun x t hx ht y hy => by
      rcases List.mem_cons.1 hy with rfl | h'
      · exact hx
      · exact ht y h') v
mutual
def szV : DVal → Nat
  | .mk _ b its => b.length + szVs its
def szVs : List DVal → Nat
  | [] => 0
  | x :: t => 1 + szV x + szVs t
end
theorem szV_eq (v : DVal) : szV v = v.bytes.length + szVs v.items := by cases v; rw [szV]; rfl
theorem szVs_cons (x : DVal) (t : List DVal) : szVs (x :: t) = 1 + szV x + szVs t := by rw [szVs]
theorem szVs_sum : ∀ l : List DVal, szVs l = l.length + (l.map szV).sum
  | [] => by rw [szVs]; rfl
  | x :: t => by rw [szVs, szVs_sum t, List.map_cons, List.sum_cons, List.length_cons]; omega
theorem szVs_mem {l : List DVal} {x : DVal} (h : x ∈ l) : szV x + l.length ≤ szVs l := by
  rw [szVs_sum]; have := sum_mem szV l x h; omega
theorem szVs_take (l : List DVal) (k : Nat) (hk : k < l.length) : ((l.take (k+1)).map szV).sum = ((l.take k).map szV).sum + szV l[k] := sum_take szV l k hk
theorem szVs_le (l : List DVal) (k : Nat) : ((l.take k).map szV).sum + l.length ≤ szVs l := by
  rw [szVs_sum, sum_split szV l k]; omega
theorem szV_item {v x : DVal} (h : x ∈ v.items) : szV x < szV v := by
  rw [szV_eq v]; have := szVs_mem h; have := List.length_pos_of_mem h; omega
/-- numbers that fit the machine -/
inductive WfV : DVal → Prop
  | mk {v : DVal} (n : (Lit.int .i64 v.num).wf = true) (i : ∀ x ∈ v.items, WfV x) : WfV v
theorem WfV.num {v : DVal} (h : WfV v) : (Lit.int .i64 v.num).wf = true := by cases h; assumption
theorem WfV.item {v : DVal} (h : WfV v) {x : DVal} (hx : x ∈ v.items) : WfV x := by cases h; rename_i n i; exact i x hx
/-- a value's three cells, in w and in every later world -/
structure ValAt (w : World) (b o : Nat) (v : DVal) (vb vi : Value) : Prop where
  c0 : ∀ (w' : World), Ext w w' → w'.cell? ⟨b, o, none⟩ = some (.int .i64 v.num)
  c1 : ∀ (w' : World), Ext w w' → w'.cell? ⟨b, o + 1, none⟩ = some vb
  c2 : ∀ (w' : World), Ext w w' → w'.cell? ⟨b, o + 2, none⟩ = some vi
theorem ValAt.ext {w w' : World} {b o : Nat} {v : DVal} {vb vi : Value} (h : ValAt w b o v vb vi) (e : Ext w w') : ValAt w' b o v vb vi :=
  ⟨fun w1 e1 => h.c0 w1 (e.trans e1), fun w1 e1 => h.c1 w1 (e.trans e1), fun w1 e1 => h.c2 w1 (e.trans e1)⟩
/-- a slice of values that reads as its -/
inductive RdVs (w : World) : Option Addr → List DVal → Nat → Prop
  | mk {A : Option Addr} {its : List DVal} {c : Nat} (cap : its.length ≤ c) (len : its.length ≤ 9223372036854775807) (b off : Nat) (hA : 0 < its.length → A = some ⟨b, off, none⟩ ∧ b < w.heap.size)
      (Ab : Nat → Option Addr) (cb : Nat → Nat) (Ai : Nat → Option Addr) (ci : Nat → Nat)
      (byt : ∀ i (h : i < its.length), Rd0 vu8 w (Ab i) its[i].bytes (cb i))
      (cells : ∀ i (h : i < its.length), ValAt w b (off + i * 3) its[i] (.slice (Ab i) its[i].bytes.length (cb i)) (.slice (Ai i) its[i].items.length (ci i)))
      (kids : ∀ i (h : i < its.length), RdVs w (Ai i) its[i].items (ci i)) : RdVs w A its c
theorem RdVs.ext {w w' : World} {A : Option Addr} {its : List DVal} {c : Nat} (h : RdVs w A its c) (e : Ext w w') : RdVs w' A its c := by
  induction h with
  | mk cap len b off hA Ab cb Ai ci byt cells kids ih =>
    exact .mk cap len b off (fun hp => ⟨(hA hp).1, Nat.lt_of_lt_of_le (hA hp).2 e.size⟩) Ab cb Ai ci (fun i h => (byt i h).ext e) (fun i h => (cells i h).ext e) (fun i h => ih i h)
theorem RdVs.len {w : World} {A : Option Addr} {its : List DVal} {c : Nat} (h : RdVs w A its c) : its.length ≤ 9223372036854775807 := by cases h; assumption
theorem RdVs.cap {w : World} {A : Option Addr} {its : List DVal} {c : Nat} (h : RdVs w A its c) : its.length ≤ c := by cases h; assumption
/-- a value's two slices -/
structure RdV (w : World) (v : DVal) (Ab : Option Addr) (cb : Nat) (Ai : Option Addr) (ci : Nat) : Prop where
  b : Rd0 vu8 w Ab v.bytes cb
  i : RdVs w Ai v.items ci
theorem RdV.ext {w w' : World} {v : DVal} {Ab : Option Addr} {cb : Nat} {Ai : Option Addr} {ci : Nat} (h : RdV w v Ab cb Ai ci) (e : Ext w w') : RdV w' v Ab cb Ai ci := ⟨h.b.ext e, h.i.ext e⟩
def vval (v : DVal) (vb vi : Value) : Value := .agg #[.int .i64 v.num, vb, vi]
theorem RdVs.at {w : World} {A : Option Addr} {its : List DVal} {c : Nat} (h : RdVs w A its c) (i : Nat) (hi : i < its.length) :
    ∃ b off Ab cb Ai ci, A = some ⟨b, off, none⟩ ∧ b < w.heap.size ∧ RdV w its[i] Ab cb Ai ci ∧ ValAt w b (off + i * 3) its[i] (.slice Ab its[i].bytes.length cb) (.slice Ai its[i].items.length ci) := by
  cases h with
  | mk cap len b off hA Ab cb Ai ci byt cells kids =>
    exact ⟨b, off, Ab i, cb i, Ai i, ci i, (hA (by omega)).1, (hA (by omega)).2, ⟨byt i hi, kids i hi⟩, cells i hi⟩
theorem RdVs.of {w : World} {A : Option Addr} {its : List DVal} {c : Nat} (cap : its.length ≤ c) (len : its.length ≤ 9223372036854775807) (b off : Nat) (hA : 0 < its.length → A = some ⟨b, off, none⟩ ∧ b < w.heap.size)
    (h : ∀ i (hi : i < its.length), ∃ Ab cb Ai ci, RdV w its[i] Ab cb Ai ci ∧ ValAt w b (off + i * 3) its[i] (.slice Ab its[i].bytes.length cb) (.slice Ai its[i].items.length ci)) : RdVs w A its c := by
  have h' : ∀ i, ∃ q : Option Addr × Nat × Option Addr × Nat, ∀ hi : i < its.length, RdV w its[i] q.1 q.2.1 q.2.2.1 q.2.2.2 ∧ ValAt w b (off + i * 3) its[i] (.slice q.1 its[i].bytes.length q.2.1) (.slice q.2.2.1 its[i].items.length q.2.2.2) := fun i => by
    by_cases hi : i < its.length
    · obtain ⟨Ab, cb, Ai, ci, h1⟩ := h i hi
      exact ⟨(Ab, cb, Ai, ci), fun _ => h1⟩
    · exact ⟨(none, 0, none, 0), fun hh => absurd hh hi⟩
  obtain ⟨f, hf⟩ := Classical.axiomOfChoice h'
  exact .mk cap len b off hA (fun i => (f i).1) (fun i => (f i).2.1) (fun i => (f i).2.2.1) (fun i => (f i).2.2.2) (fun i hi => (hf i hi).1.b) (fun i hi => (hf i hi).2) (fun i hi => (hf i hi).1.i)
theorem RdVs.nil (w : World) : RdVs w none [] 0 := .of (by simp) (by simp) 0 0 (fun h => by simp at h) (fun i h => by simp at h)
theorem RdVs.size_le {w : World} {A : Option Addr} {its : List DVal} {c : Nat} (h : RdVs w A its c) : its.length ≤ szVs its := by rw [szVs_sum]; omega

/-- a value that a call made: its two slices' values beside what they read as -/
inductive VT where
  | mk (num : Int) (bs : List UInt8) (vb : Value) (its : List VT) (vi : Value)
def VT.num : VT → Int | .mk n _ _ _ _ => n
def VT.bs : VT → List UInt8 | .mk _ b _ _ _ => b
def VT.vb : VT → Value | .mk _ _ v _ _ => v
def VT.its : VT → List VT | .mk _ _ _ l _ => l
def VT.vi : VT → Value | .mk _ _ _ _ v => v
theorem VT.ind {P : VT → Prop} (h : ∀ t, (∀ x ∈ t.its, P x) → P t) (t : VT) : P t :=
  VT.rec (motive_1 := P) (motive_2 := fun l => ∀ x ∈ l, P x) (fun n b vb its vi ih => h (.mk n b vb its vi) ih) (fun x hx => by cases hx)
    (fun x t hx ht y hy => by
      rcases List.mem_cons.1 hy with rfl | h'
      · exact hx
      · exact ht y h') t
mutual
def VT.val : VT → DVal
  | .mk n b _ its _ => .mk n b (valsOf its)
def valsOf : List VT → List DVal
  | [] => []
  | x :: t => x.val :: valsOf t
end
mutual
def VT.vals : VT → List Value
  | .mk _ _ vb its vi => vb :: vi :: valsVs its
def valsVs : List VT → List Value
  | [] => []
  | x :: t => x.vals ++ valsVs t
end
theorem valsOf_map : ∀ l : List VT, valsOf l = l.map VT.val
  | [] => by rw [valsOf]; rfl
  | x :: t => by rw [valsOf, valsOf_map t]; rfl
theorem valsVs_flat : ∀ l : List VT, valsVs l = l.flatMap VT.vals
  | [] => by rw [valsVs]; rfl
  | x :: t => by rw [valsVs, valsVs_flat t, List.flatMap_cons]
theorem VT.vals_eq (t : VT) : t.vals = t.vb :: t.vi :: t.its.flatMap VT.vals := by cases t; rw [VT.vals, valsVs_flat]; rfl
theorem VT.val_num (t : VT) : t.val.num = t.num := by cases t; rw [VT.val]; rfl
theorem VT.val_bytes (t : VT) : t.val.bytes = t.bs := by cases t; rw [VT.val]; rfl
theorem VT.val_items (t : VT) : t.val.items = valsOf t.its := by cases t; rw [VT.val]; rfl
theorem valsOf_len (l : List VT) : (valsOf l).length = l.length := by rw [valsOf_map, List.length_map]
theorem valsOf_append (a b : List VT) : valsOf (a ++ b) = valsOf a ++ valsOf b := by rw [valsOf_map, valsOf_map, valsOf_map, List.map_append]
theorem valsOf_get (l : List VT) (i : Nat) (h : i < (valsOf l).length) : (valsOf l)[i] = (l[i]'(by rwa [valsOf_len] at h)).val := by simp [valsOf_map]
def VT.cells (t : VT) : List Value := [.int .i64 t.num, t.vb, t.vi]
theorem VT.one {t : VT} (hb : t.vb.oneCell' = true) (hi : t.vi.oneCell' = true) : ∀ u ∈ t.cells, u.oneCell' = true := by
  intro u hu
  simp only [VT.cells, List.mem_cons, List.not_mem_nil, or_false] at hu
  rcases hu with rfl | rfl | rfl <;> first | rfl | assumption
/-- the rows of a value that the call since w0 made -/
inductive OwnT (w0 w : World) : VT → Prop
  | mk {t : VT} (b : OwnL vu8 5 w0 w t.vb t.bs) (i : Own 39 3 w0 w t.vi t.its.length (t.its.flatMap VT.cells)) (kids : ∀ x ∈ t.its, OwnT w0 w x) : OwnT w0 w t
theorem OwnT.b {w0 w : World} {t : VT} (h : OwnT w0 w t) : OwnL vu8 5 w0 w t.vb t.bs := by cases h; assumption
theorem OwnT.i {w0 w : World} {t : VT} (h : OwnT w0 w t) : Own 39 3 w0 w t.vi t.its.length (t.its.flatMap VT.cells) := by cases h; assumption
theorem OwnT.kids {w0 w : World} {t : VT} (h : OwnT w0 w t) : ∀ x ∈ t.its, OwnT w0 w x := by cases h; assumption
theorem mem_vals {t x : VT} (hx : x ∈ t.its) {u : Value} (hu : u ∈ x.vals) : u ∈ t.vals := by
  rw [VT.vals_eq]; exact List.mem_cons_of_mem _ (List.mem_cons_of_mem _ (List.mem_flatMap.2 ⟨x, hx, hu⟩))
theorem vb_mem (t : VT) : t.vb ∈ t.vals := by rw [VT.vals_eq]; simp
theorem vi_mem (t : VT) : t.vi ∈ t.vals := by rw [VT.vals_eq]; simp
theorem OwnT.ext {w0 w w' : World} {t : VT} (h : OwnT w0 w t) (e : Ext w w') : OwnT w0 w' t := by
  induction h with
  | mk b i kids ih => exact .mk (b.ext e) (i.ext e) ih
theorem OwnT.down {w0 w1 w : World} {t : VT} (h : OwnT w1 w t) (e : w0.heap.size ≤ w1.heap.size) : OwnT w0 w t := by
  induction h with
  | mk b i kids ih => exact .mk (OwnL.down b e) (World.ownsRow.lower i e) ih
theorem OwnT.keep {w0 w w' : World} {t : VT} (h : OwnT w0 w t) {row : Option Nat} (hg : w.grownBy w' row) (hne : ∀ v ∈ t.vals, ∀ g, v.ownBlock = some g → row ≠ some g) : OwnT w0 w' t := by
  induction h with
  | mk b i kids ih =>
    rename_i t
    exact .mk (b.keep hg (hne _ (vb_mem t))) (i.keep hg (hne _ (vi_mem t))) (fun x hx => ih x hx (fun v hv => hne v (mem_vals hx hv)))
theorem OwnT.wroteB {w0 w w' : World} {t : VT} (h : OwnT w0 w t) {B : Nat → Prop} (hw : WroteB B w w') (hv : ∀ v ∈ t.vals, ∀ g, v.ownBlock = some g → ¬ B g) : OwnT w0 w' t := by
  induction h with
  | mk b i kids ih =>
    rename_i t
    exact .mk (b.wroteB hw (hv _ (vb_mem t))) (i.wroteB hw (hv _ (vi_mem t))) (fun x hx => ih x hx (fun v h => hv v (mem_vals hx h)))
theorem OwnT.wrote {w0 w w' : World} {t : VT} (h : OwnT w0 w t) {lo hi : Nat} (hw : Wrote lo hi w w') (hv : ∀ v ∈ t.vals, ∀ g, v.ownBlock = some g → g < lo ∨ hi ≤ g) : OwnT w0 w' t := by
  induction h with
  | mk b i kids ih =>
    rename_i t
    exact .mk (b.wrote hw (hv _ (vb_mem t))) (i.wrote hw (hv _ (vi_mem t))) (fun x hx => ih x hx (fun v h => hv v (mem_vals hx h)))
theorem OwnT.block {w0 w : World} {t : VT} (h : OwnT w0 w t) : ∀ v ∈ t.vals, ∀ g, v.ownBlock = some g → w0.heap.size ≤ g ∧ g < w.heap.size := by
  induction h with
  | mk b i kids ih =>
    rename_i t
    intro v hv
    rw [VT.vals_eq] at hv
    rcases List.mem_cons.1 hv with rfl | hv
    · exact fun g hg => World.ownsRow.lt b g hg
    rcases List.mem_cons.1 hv with rfl | hv
    · exact fun g hg => World.ownsRow.lt i g hg
    · obtain ⟨x, hx, hv⟩ := List.mem_flatMap.1 hv
      exact ih x hx v hv
/-- values that the call since w0 made, in a row of its own -/
structure OwnTs (w0 w : World) (v : Value) (ps : List VT) : Prop where
  row : Own 39 3 w0 w v ps.length (ps.flatMap VT.cells)
  each : ∀ p ∈ ps, OwnT w0 w p
  far : Far (v :: ps.flatMap VT.vals)
theorem Own.shape {e : TypeId} {size : Nat} {w0 w : World} {v : Value} {n : Nat} {xs : List Value} (h : Own e size w0 w v n xs) : ∃ A c, v = .slice A n c := by
  rcases h.2 with ⟨rfl, hn⟩ | ⟨g, cap, _, rfl, _⟩
  · exact ⟨none, 0, by rw [hn]⟩
  · exact ⟨_, _, rfl⟩
theorem OwnTs.shape {w0 w : World} {v : Value} {ps : List VT} (h : OwnTs w0 w v ps) : ∃ A c, v = .slice A ps.length c := h.row.shape
theorem OwnTs.ext {w0 w w' : World} {v : Value} {ps : List VT} (h : OwnTs w0 w v ps) (e : Ext w w') : OwnTs w0 w' v ps := ⟨h.row.ext e, fun p hp => (h.each p hp).ext e, h.far⟩
theorem OwnTs.down {w0 w1 w : World} {v : Value} {ps : List VT} (h : OwnTs w1 w v ps) (e : w0.heap.size ≤ w1.heap.size) : OwnTs w0 w v ps := ⟨World.ownsRow.lower h.row e, fun p hp => (h.each p hp).down e, h.far⟩
theorem OwnTs.keep {w0 w w' : World} {v : Value} {ps : List VT} (h : OwnTs w0 w v ps) {row : Option Nat} (hg : w.grownBy w' row) (hne : ∀ u ∈ v :: ps.flatMap VT.vals, ∀ g, u.ownBlock = some g → row ≠ some g) : OwnTs w0 w' v ps :=
  ⟨h.row.keep hg (hne _ (by simp)), fun p hp => (h.each p hp).keep hg (fun u hu => hne u (List.mem_cons_of_mem _ (List.mem_flatMap.2 ⟨p, hp, hu⟩))), h.far⟩
theorem OwnTs.block {w0 w : World} {v : Value} {ps : List VT} (h : OwnTs w0 w v ps) : ∀ u ∈ v :: ps.flatMap VT.vals, ∀ g, u.ownBlock = some g → w0.heap.size ≤ g ∧ g < w.heap.size := by
  intro u hu
  rcases List.mem_cons.1 hu with rfl | hu
  · exact fun g hg => World.ownsRow.lt h.row g hg
  · obtain ⟨p, hp, hu⟩ := List.mem_flatMap.1 hu
    exact (h.each p hp).block u hu
theorem vcells_len (ps : List VT) : (ps.flatMap VT.cells).length = ps.length * 3 := by
  induction ps with
  | nil => rfl
  | cons p t ih => rw [List.flatMap_cons, List.length_append, ih, List.length_cons]; simp [VT.cells]; omega
theorem vcells_get : ∀ (ps : List VT) (i j : Nat) (h : i < ps.length), j < 3 → (ps.flatMap VT.cells)[i * 3 + j]? = ps[i].cells[j]? := by
  intro ps
  induction ps with
  | nil => intro i j h; simp at h
  | cons p t ih =>
    intro i j h hj
    rw [List.flatMap_cons]
    cases i with
    | zero =>
      rw [List.getElem?_append_left (by simp [VT.cells]; omega)]
      simp
    | succ i =>
      rw [List.getElem?_append_right (by simp [VT.cells]; omega)]
      have : (i + 1) * 3 + j - p.cells.length = i * 3 + j := by simp [VT.cells]; omega
      rw [this, ih i j (by simpa using h) hj]
      simp
theorem bytes_le (v : DVal) : v.bytes.length ≤ szV v := by rw [szV_eq]; omega
theorem items_le (v : DVal) : v.items.length ≤ szV v := by rw [szV_eq, szVs_sum]; omega
theorem szVs_le_szV (v : DVal) : szVs v.items ≤ szV v := by rw [szV_eq]; omega
theorem RdVs.of_row {w0 w : World} {v : Value} {ps : List VT} (hrow : Own 39 3 w0 w v ps.length (ps.flatMap VT.cells)) (hl : ps.length ≤ 9223372036854775807)
    (hk : ∀ p ∈ ps, ∃ Ab cb Ai ci, p.vb = .slice Ab p.val.bytes.length cb ∧ p.vi = .slice Ai p.val.items.length ci ∧ RdV w p.val Ab cb Ai ci) : ∃ A c, v = .slice A (valsOf ps).length c ∧ RdVs w A (valsOf ps) c := by
  have hlen := valsOf_len ps
  rcases hrow.2 with ⟨rfl, h0⟩ | ⟨g, cap, cur, rfl, hb, hg, hnc, hcm, hcs, htake⟩
  · refine ⟨none, 0, by rw [hlen, h0], ?_⟩
    obtain rfl : ps = [] := List.eq_nil_of_length_eq_zero h0
    rw [valsOf]; exact RdVs.nil w
  · refine ⟨_, _, by rw [hlen], .of (by omega) (by omega) g 0 (fun _ => ⟨rfl, (Array.getElem?_eq_some_iff.1 hg).1⟩) (fun i hi => ?_)⟩
    have hi' : i < ps.length := by omega
    rw [valsOf_get ps i hi]
    have hc : ∀ (w' : World), Ext w w' → ∀ j, j < 3 → w'.cell? ⟨g, i * 3 + j, none⟩ = ps[i].cells[j]? := by
      intro w' e j hj
      rw [heap_row hg e, ← vcells_get ps i j hi' hj, ← htake, List.getElem?_take, if_pos (by omega)]
      simp
    obtain ⟨Ab, cb, Ai, ci, e1, e2, hR⟩ := hk _ (List.getElem_mem hi')
    refine ⟨Ab, cb, Ai, ci, hR, ?_⟩
    rw [← e1, ← e2, Nat.zero_add]
    exact ⟨fun w' e => by have := hc w' e 0 (by omega); simpa [VT.cells, VT.val_num] using this, fun w' e => by have := hc w' e 1 (by omega); simpa [VT.cells] using this, fun w' e => by have := hc w' e 2 (by omega); simpa [VT.cells] using this⟩
theorem OwnT.rd {w0 w : World} {t : VT} (h : OwnT w0 w t) (hz : szV t.val ≤ 140737488351232) : ∃ Ab cb Ai ci, t.vb = .slice Ab t.val.bytes.length cb ∧ t.vi = .slice Ai t.val.items.length ci ∧ RdV w t.val Ab cb Ai ci := by
  induction h with
  | mk b i kids ih =>
    rename_i t
    have hb1 := bytes_le t.val; have hi1 := items_le t.val
    rw [VT.val_bytes] at hb1; rw [VT.val_items, valsOf_len] at hi1
    obtain ⟨Ab, cb, e1, r1⟩ := OwnL.rd b (by omega)
    obtain ⟨Ai, ci, e2, r2⟩ := RdVs.of_row i (by omega) (fun p hp => ih p hp (by
      have : szV p.val < szV t.val := szV_item (by rw [VT.val_items, valsOf_map]; exact List.mem_map_of_mem hp)
      omega))
    exact ⟨Ab, cb, Ai, ci, by rw [VT.val_bytes]; exact e1, by rw [VT.val_items]; exact e2, ⟨by rw [VT.val_bytes]; exact r1.1, by rw [VT.val_items]; exact r2⟩⟩
theorem OwnTs.rd {w0 w : World} {v : Value} {ps : List VT} (h : OwnTs w0 w v ps) (hz : szVs (valsOf ps) ≤ 140737488351232) : ∃ A c, v = .slice A (valsOf ps).length c ∧ RdVs w A (valsOf ps) c :=
  RdVs.of_row h.row (by have := szVs_sum (valsOf ps); rw [valsOf_len] at this; omega) (fun p hp => (h.each p hp).rd (by
    have := szVs_mem (l := valsOf ps) (x := p.val) (by rw [valsOf_map]; exact List.mem_map_of_mem hp); omega))
/-- three cells are laid into a row -/
theorem set3 (xs : List Value) (p : VT) (rest : List Value) (hr : 3 ≤ rest.length) (k : Nat) (hk : xs.length = k) :
    (((xs ++ rest).set k (.int .i64 p.num)).set (k + 1) p.vb).set (k + 2) p.vi = (xs ++ p.cells) ++ rest.drop 3 := by
  match rest, hr with
  | a0 :: a1 :: a2 :: t, _ =>
    subst hk
    rw [List.set_append_right _ _ (by omega), List.set_append_right _ _ (by omega), List.set_append_right _ _ (by omega)]
    rw [show xs.length - xs.length = 0 by omega, show xs.length + 1 - xs.length = 1 by omega, show xs.length + 2 - xs.length = 2 by omega]
    simp [VT.cells]
def put3 (w : World) (g k : Nat) (p : VT) : World := ((w.setCell ⟨g, k, none⟩ (.int .i64 p.num)).setCell ⟨g, k + 1, none⟩ p.vb).setCell ⟨g, k + 2, none⟩ p.vi
theorem grown_put3 (w : World) (g k : Nat) (p : VT) : w.grownBy (put3 w g k p) (some g) := by
  unfold put3
  exact ((grown_set w ⟨g, k, none⟩ _).trans (grown_set _ ⟨g, k + 1, none⟩ _)).trans (grown_set _ ⟨g, k + 2, none⟩ _)
theorem Own.put3 {e : TypeId} {w0 w : World} {g n cap : Nat} {xs rest : List Value} (h : Own e 3 w0 w (.slice (some ⟨g, 0, none⟩) n cap) n (xs ++ rest)) (he : Ext w0 w) (p : VT) (hr : 3 ≤ rest.length) (k : Nat) (hk : xs.length = k) :
    Own e 3 w0 (put3 w g k p) (.slice (some ⟨g, 0, none⟩) n cap) n ((xs ++ p.cells) ++ rest.drop 3) ∧ Ext w0 (put3 w g k p) := by
  rw [← set3 xs p rest hr k hk]
  obtain ⟨h0, e0⟩ := h.store he k (.int .i64 p.num)
  obtain ⟨h1, e1⟩ := Own.store h0 e0 (k + 1) p.vb
  obtain ⟨h2, e2⟩ := Own.store h1 e1 (k + 2) p.vi
  exact ⟨h2, e2⟩
/-- a value out of a call, with what it reads as -/
structure GotV (w w' : World) (t : VT) (v : DVal) : Prop where
  val : t.val = v
  own : OwnT w w' t
  far : Far t.vals
theorem GotV.ext {w w' w'' : World} {t : VT} {v : DVal} (h : GotV w w' t v) (e : Ext w' w'') : GotV w w'' t v := ⟨h.val, h.own.ext e, h.far⟩
theorem GotV.down {w0 w w' : World} {t : VT} {v : DVal} (h : GotV w w' t v) (e : w0.heap.size ≤ w.heap.size) : GotV w0 w' t v := ⟨h.val, h.own.down e, h.far⟩
theorem GotV.rd {w w' : World} {t : VT} {v : DVal} (h : GotV w w' t v) (hz : szV v ≤ 140737488351232) : ∃ Ab cb Ai ci, t.vb = .slice Ab v.bytes.length cb ∧ t.vi = .slice Ai v.items.length ci ∧ RdV w' v Ab cb Ai ci := by
  obtain ⟨e, o, _⟩ := h
  subst e
  exact o.rd hz
theorem GotV.num {w w' : World} {t : VT} {v : DVal} (h : GotV w w' t v) : t.num = v.num := by rw [← h.val, VT.val_num]
end Go.Proofs.YtjckcbfpejcpcaaGreatDoor

/- Values that came in. -/
namespace Go.Proofs.YtjckcbfpejcpcaaGreatDoor
open Go.ChangeShapes Go.WideShapes Go.ChangeAt Go.RowKit Go.Deep
section
variable {H : Type} {enc : TypeId × Value → H} {W : World} {base : Nat} {spare : Nat → Bool} {held : Bool}
set_option maxRecDepth 100000 in
theorem trod_agg3 {t : TypeId} {f0 f1 f2 : Field} {n : Nat} {cs : List Value} {y : DataW H × List MemPlace} (hs : Tryz.prog.underlying t = some (.struct #[f0, f1, f2])) (hone : oneCellFields Tryz.prog #[f0, f1, f2] = true) (hC : Tryz.prog.cellsOf t = 3)
    (h : DataW.trod enc Tryz.prog W base spare held n t cs = some y) : ∃ (v0 v1 v2 : Value) (y0 y1 y2 : DataW H × List MemPlace) (m : Nat), n = m + 1 ∧ cs = [v0, v1, v2] ∧ DataW.trod enc Tryz.prog W base spare held m f0.type [v0] = some y0 ∧ DataW.trod enc Tryz.prog W base spare held m f1.type [v1] = some y1 ∧ DataW.trod enc Tryz.prog W base spare held m f2.type [v2] = some y2 := by
  obtain ⟨xs, m, hm, _, hcl, hlen, hg⟩ := DataW.trod_struct hs h
  rw [hC] at hcl
  match cs, hcl with
  | [c0, c1, c2], _ =>
    obtain ⟨o0, k0⟩ := Go.Deep.hone_of hone 0 f0 rfl
    obtain ⟨o1, k1⟩ := Go.Deep.hone_of hone 1 f1 rfl
    obtain ⟨o2, k2⟩ := Go.Deep.hone_of hone 2 f2 rfl
    match xs, hlen with
    | [y0, y1, y2], _ =>
      exact ⟨c0, c1, c2, y0, y1, y2, m, hm, rfl, by simpa [o0, k0] using hg 0 f0 rfl, by simpa [o1, k1] using hg 1 f1 rfl, by simpa [o2, k2] using hg 2 f2 rfl⟩
/-- what three cells that came in as a value read as -/
def InVal (W : World) (cs : List Value) (v : DVal) : Prop := ∃ (Ab : Option Addr) (cb : Nat) (Ai : Option Addr) (ci : Nat), cs = [.int .i64 v.num, .slice Ab v.bytes.length cb, .slice Ai v.items.length ci] ∧ RdV W v Ab cb Ai ci
theorem in_vals {n : Nat} {v : Value} {y : DataW H × List MemPlace} (ih : ∀ m, m < n → ∀ cs y, DataW.trod enc Tryz.prog W base spare held m 28 cs = some y → ∃ x, InVal W cs x ∧ WfV x)
    (h : DataW.trod enc Tryz.prog W base spare held n 26 [v] = some y) : ∃ (A : Option Addr) (l : List DVal) (c : Nat), v = .slice A l.length c ∧ RdVs W A l c ∧ ∀ x ∈ l, WfV x := by
  rcases DataW.trod_slice Tryz.underlying26 h with ⟨hcs, _⟩ | ⟨x, len, c, elems, rest, m, hnm, hcs, _, hb, hl, hm, hlen, hel, _⟩
  · obtain rfl : v = .slice none 0 0 := by simpa using hcs
    exact ⟨none, [], 0, rfl, RdVs.nil W, fun _ h => by cases h⟩
  · obtain rfl : v = .slice (some x) len c := by simpa using hcs
    have hC : Tryz.prog.cellsOf 28 = 3 := by kernel_rfl
    rw [hC] at hel
    have key : ∀ i, i < len → ∃ d : DVal, (∃ (Ab : Option Addr) (cb : Nat) (Ai : Option Addr) (ci : Nat), RdV W d Ab cb Ai ci ∧
        ∀ j, j < 3 → W.cell? ((x.add (i * 3)).add j) = ([.int .i64 d.num, .slice Ab d.bytes.length cb, .slice Ai d.items.length ci] : List Value)[j]?) ∧ WfV d := by
      intro i hi
      have h1 := hel i hi
      rw [List.getElem?_eq_getElem (by omega), Option.bind_eq_some_iff] at h1
      obtain ⟨cs, h2, h3⟩ := h1
      obtain ⟨d, ⟨Ab, cb, Ai, ci, rfl, h4⟩, h5⟩ := ih m (by omega) _ _ h3
      exact ⟨d, ⟨Ab, cb, Ai, ci, h4, (World.cells?_some h2).2.2⟩, h5⟩
    obtain ⟨ds, hds, hp⟩ := exists_list len _ key
    subst hds
    obtain ⟨b, off, spot⟩ := x
    have hspot : 0 < ds.length → spot = none := fun hpos => by
      obtain ⟨⟨Ab, cb, Ai, ci, _, hc⟩, _⟩ := hp 0 hpos
      have := hc 0 (by omega)
      simpa [Addr.add] using World.cell?_spot this
    refine ⟨some ⟨b, off, spot⟩, ds, c, rfl, RdVs.of hl (by simp [maxLen] at hm; omega) b off (fun hpos => ?_) (fun i hi => ?_), fun r hr => ?_⟩
    · refine ⟨by rw [hspot hpos], ?_⟩
      obtain ⟨⟨Ab, cb, Ai, ci, _, hc⟩, _⟩ := hp 0 hpos
      have := hc 0 (by omega)
      rw [hspot hpos, add_at] at this
      simpa using block_lt_of_cell this
    · have hsp := hspot (by omega)
      subst hsp
      obtain ⟨⟨Ab, cb, Ai, ci, hS, hc⟩, _⟩ := hp i hi
      have hc' : ∀ (w' : World), Ext W w' → ∀ j, j < 3 → w'.cell? ⟨b, off + i * 3 + j, none⟩ = ([.int .i64 ds[i].num, .slice Ab ds[i].bytes.length cb, .slice Ai ds[i].items.length ci] : List Value)[j]? := by
        intro w' e j hj
        have h1 := hc j hj
        rw [add_at] at h1
        have hblk : b < W.heap.size := by
          have h2 := hc 0 (by omega)
          rw [add_at] at h2
          simpa using block_lt_of_cell h2
        rw [Below.cell e (p := ⟨b, off + i * 3 + j, none⟩) hblk]
        exact h1
      exact ⟨Ab, cb, Ai, ci, hS, fun w' e => by have := hc' w' e 0 (by omega); simpa using this, fun w' e => by have := hc' w' e 1 (by omega); simpa using this, fun w' e => by have := hc' w' e 2 (by omega); simpa using this⟩
    · obtain ⟨i, hi, rfl⟩ := List.getElem_of_mem hr
      exact (hp i hi).2
set_option maxRecDepth 100000 in
theorem in_val : ∀ (n : Nat) (cs : List Value) (y : DataW H × List MemPlace), DataW.trod enc Tryz.prog W base spare held n 28 cs = some y → ∃ x, InVal W cs x ∧ WfV x := by
  intro n
  induction n using Nat.strongRecOn with
  | ind n ih =>
    intro cs y h
    obtain ⟨c0, c1, c2, y0, y1, y2, m, hm, rfl, g0, g1, g2⟩ := trod_agg3 Tryz.underlying28 (by kernel_rfl) (by kernel_rfl) h
    dsimp only at g0 g1 g2
    obtain ⟨num, e0, _, hk⟩ := DataW.trod_int Tryz.underlying3 g0
    obtain ⟨Ab, lb, cb, e1, r1⟩ := in_bytes Tryz.underlying25 Tryz.underlying5 (by kernel_rfl) g1
    obtain ⟨Ai, li, ci, e2, r2, w2⟩ := in_vals (fun k hk => ih k (by omega)) g2
    simp at e0
    subst e0 e1 e2
    exact ⟨.mk num lb li, ⟨Ab, cb, Ai, ci, rfl, r1, r2⟩, .mk hk w2⟩
structure ValIn where
  v : DVal
  Ab : Option Addr
  cb : Nat
  Ai : Option Addr
  ci : Nat
def ValIn.val (x : ValIn) : Value := vval x.v (.slice x.Ab x.v.bytes.length x.cb) (.slice x.Ai x.v.items.length x.ci)
def ValIn.rd (x : ValIn) (W : World) : Prop := RdV W x.v x.Ab x.cb x.Ai x.ci ∧ WfV x.v
theorem open_agg_3 {P : Program} {r : Reach} {b0 : Nat} {t : TypeId} {f0 f1 f2 : Field} {v : Value} {d : DataW H} {p : List MemPlace} (hs : P.underlying t = some (.struct #[f0, f1, f2])) (hone : oneCellFields P #[f0, f1, f2] = true) (hC : P.cellsOf t = 3)
    (hv : Value.okWide P W r b0 t v) (h : DataW.Trod enc P W base spare held t v d p) :
    ∃ (v0 v1 v2 : Value) (y0 y1 y2 : DataW H × List MemPlace) (n : Nat), v = .agg #[v0, v1, v2] ∧ DataW.trod enc P W base spare held n f0.type [v0] = some y0 ∧ DataW.trod enc P W base spare held n f1.type [v1] = some y1 ∧ DataW.trod enc P W base spare held n f2.type [v2] = some y2 := by
  obtain ⟨cs, rfl, hsz⟩ := okWide_struct hs hv
  obtain ⟨l⟩ := cs
  match l, hsz.trans hC with
  | [c0, c1, c2], _ =>
    obtain ⟨fuel, hf⟩ := h
    obtain ⟨xs, n, _, hx, _, hlen, hg⟩ := DataW.trod_struct hs hf
    obtain ⟨o0, k0⟩ := Go.Deep.hone_of hone 0 f0 rfl
    obtain ⟨o1, k1⟩ := Go.Deep.hone_of hone 1 f1 rfl
    obtain ⟨o2, k2⟩ := Go.Deep.hone_of hone 2 f2 rfl
    match xs, hlen with
    | [y0, y1, y2], _ =>
      exact ⟨c0, c1, c2, y0, y1, y2, n, rfl, by simpa [Value.cells, o0, k0] using hg 0 f0 rfl, by simpa [Value.cells, o1, k1] using hg 1 f1 rfl, by simpa [Value.cells, o2, k2] using hg 2 f2 rfl⟩
set_option maxRecDepth 100000 in
theorem in_value {r : Reach} {b0 : Nat} {v : Value} {d : DataW H} {p : List MemPlace}
    (hv : Value.okWide Tryz.prog W r b0 28 v) (h : DataW.Trod enc Tryz.prog W base spare held 28 v d p) : ∃ x : ValIn, v = x.val ∧ x.rd W := by
  obtain ⟨v0, v1, v2, y0, y1, y2, n, rfl, g0, g1, g2⟩ := open_agg_3 Tryz.underlying28 (by kernel_rfl) (by kernel_rfl) hv h
  dsimp only at g0 g1 g2
  obtain ⟨num, e0, _, hk⟩ := DataW.trod_int Tryz.underlying3 g0
  obtain ⟨Ab, lb, cb, e1, r1⟩ := in_bytes Tryz.underlying25 Tryz.underlying5 (by kernel_rfl) g1
  obtain ⟨Ai, li, ci, e2, r2, w2⟩ := in_vals (fun k _ => in_val k) g2
  simp at e0
  subst e0 e1 e2
  exact ⟨⟨.mk num lb li, Ab, cb, Ai, ci⟩, rfl, ⟨r1, r2⟩, .mk hk w2⟩
end
end Go.Proofs.YtjckcbfpejcpcaaGreatDoor

/- The laws' copies of values. -/
namespace Go.Proofs.YtjckcbfpejcpcaaGreatDoor
open Go.RowKit Go.Sort

theorem E_val : Elem Tryz.prog 37 39 3 56 (.agg #[.int .i64 0, .slice none 0 0, .slice none 0 0]) := ⟨Tryz.underlying37, by kernel_rfl, rfl, by omega⟩
def ToOk (v : DVal) : Prop := ∀ (Ab : Option Addr) (cb : Nat) (Ai : Option Addr) (ci : Nat) (w : World), RdV w v Ab cb Ai ci → szV v ≤ 1048576 →
  Calls Tryz.prog 9 #[vval v (.slice Ab v.bytes.length cb) (.slice Ai v.items.length ci)] w fun e w' => ∃ t, e = .returned (vval v t.vb t.vi) ∧ GotV w w' t v ∧ Ext w w'
set_option maxRecDepth 100000 in
set_option maxHeartbeats 4000000 in
theorem toValueS_of (A : Option Addr) (ds : List DVal) (c : Nat) (w : World) (h : RdVs w A ds c) (H : ∀ x ∈ ds, ToOk x) (hz : szVs ds ≤ 1048576) :
    Calls Tryz.prog 34 #[.slice A ds.length c] w fun e w' => ∃ v ps, e = .returned v ∧ valsOf ps = ds ∧ OwnTs w w' v ps ∧ Ext w w' := by
  have hn : ds.length ≤ 1048576 := by have := h.size_le; omega
  have HZ : Hid (∀ k (hk : k < ds.length), szV ds[k] ≤ 1048576) := fun k hk => by have := szVs_mem (List.getElem_mem hk); omega
  have HH := Lib.hid H
  clear H
  go_enter Tryz.func34, Tryz.ntmps34
  go_wp2_with (first
    | (at_make; refine wpList_mk rfl _ _ _ rfl E_val w w (Ext.refl w) ds.length rfl rfl (by omega) (by simp [maxLen]; omega) ?_; intro w1 ho he _))
  have hw1 : w.heap.size < w1.heap.size := (World.ownsRow.lt ho _ rfl).2
  obtain ⟨rest0, HR0, HO⟩ : ∃ rest0 : List Value, Hid (rest0.length = ds.length * 3) ∧ Hid (Own 39 3 w w1 (.slice (some ⟨w.heap.size, 0, none⟩) ds.length ds.length) ds.length rest0) := ⟨_, by show _ = _; rw [Array.length_toList, size_madeCells], ho⟩
  clear ho
  go_loopw [4] (fun i wr => ∃ (k : Nat) (ps : List VT) (rest : List Value), k ≤ ds.length ∧ i = .int .i64 k ∧ ps.length ≤ k ∧ k ≤ ps.length ∧ Hid (valsOf ps = ds.take k) ∧ Hid (rest.length = (ds.length - k) * 3) ∧ Hid (Own 39 3 w wr (.slice (some ⟨w.heap.size, 0, none⟩) ds.length ds.length) ds.length (ps.flatMap VT.cells ++ rest)) ∧ Hid (∀ p ∈ ps, OwnT w1 wr p) ∧ Hid (Far (ps.flatMap VT.vals)) ∧ Ext w wr ∧ w1.heap.size ≤ wr.heap.size) (fun i _ => ds.length - (intOf i).toNat)
  case atStart => exact ⟨0, [], rest0, by omega, rfl, by simp, by simp, by simp [Hid, valsOf], by simpa [Hid] using HR0.out, by simpa [Hid] using HO.out, by simp [Hid], Far.nil, he, Nat.le_refl _⟩
  case round =>
    clear HO HR0 rest0 he
    obtain ⟨k, ps, rest, hk, rfl, hl1, hl2, hps, hrest, ho, hq, hfar, he, hsz⟩ := hrel
    by_cases hlt : k < ds.length
    · obtain ⟨b, off, Ab, cb, Ai, ci, rfl, hb, hs, hr⟩ := h.at k hlt
      have hzk := HZ.out k hlt
      have HT : Hid (ds.take (k+1) = ds.take k ++ [ds[k]]) := List.take_succ_eq_append_getElem hlt
      have Hk := HH.out _ (List.getElem_mem hlt)
      have C := Lib.hid (fun w h => Hk Ab cb Ai ci w h hzk)
      clear Hk
      generalize ds[k] = r at *
      obtain ⟨k0, k1, k2⟩ := hr
      unfold vval at C
      clear h
      go_wp2_with fail
      refine (C.out _ (hs.ext he)).mono ?_; rintro _ w2 ⟨t, rfl, hgt, he2⟩
      obtain ⟨Ab', cb', Ai', ci', e1, e2, _⟩ := hgt.rd (by omega)
      have htn := hgt.num
      obtain ⟨hval, hro, hfr⟩ := hgt
      have HVAL := Lib.hid hval
      have ho2 := Own.ext ho.out he2
      have hln : (ps.flatMap VT.cells ++ rest).length = ds.length * 3 := ho2.1
      obtain ⟨⟨u0, hu0⟩, hf0⟩ := ho2.slot (k * 3) (by rw [hln]; omega)
      obtain ⟨⟨u1, hu1⟩, hf1⟩ := ho2.slot (k * 3 + 1) (by rw [hln]; omega)
      obtain ⟨⟨u2, hu2⟩, hf2⟩ := ho2.slot (k * 3 + 2) (by rw [hln]; omega)
      have hlr := hrest.out
      have hpl : ps.length = k := by omega
      obtain ⟨hO, hE⟩ := Own.put3 ho2 (he.trans he2) t (by omega) (k * 3) (by rw [vcells_len]; omega)
      have hG := grown_put3 w2 w.heap.size (k * 3) t
      unfold put3 at hO hE hG
      rw [htn, e1, e2] at hO hE hG
      have HO := Lib.hid hO; have HE := Lib.hid hE; have HG := Lib.hid hG; have HRO := Lib.hid hro; have HF4 := Lib.hid hfr; have HPL := Lib.hid hpl; have HLR := Lib.hid hlr
      have hsz2 := he2.size
      rw [e1, e2]
      clear ho2 hO hE hG hro hfr hpl hlr ho hval htn e1 e2
      go_wp2
      go_roundw
      case rel =>
        refine ⟨k+1, ps ++ [t], rest.drop 3, by omega, by go_num, by simp; omega, by simp; omega, ?_, ?_, ?_, ?_, ?_, HE.out, ?_⟩
        · show _ = _; rw [valsOf_append, hps.out, HT.out, valsOf, valsOf, HVAL.out]
        · show _ = _; rw [List.length_drop, HLR.out]; omega
        · show Own _ _ _ _ _ _ _; rw [List.flatMap_append, List.flatMap_cons, List.flatMap_nil, List.append_nil]; exact HO.out
        · intro p hp
          rcases List.mem_append.1 hp with hp | hp
          · exact ((hq.out p hp).ext he2).keep HG.out (fun v hv g hg he' => by have := (hq.out p hp).block v hv g hg; injection he' with he'; omega)
          · obtain rfl := List.mem_singleton.1 hp
            exact (HRO.out.keep HG.out (fun v hv g hg he' => by have := HRO.out.block v hv g hg; injection he' with he'; omega)).down hsz
        · show Far _
          rw [List.flatMap_append, List.flatMap_cons, List.flatMap_nil, List.append_nil]
          refine Far.append hfar.out HF4.out ?_
          intro u hu v hv g h1 h2
          obtain ⟨p, hp, hu⟩ := List.mem_flatMap.1 hu
          have := (hq.out p hp).block u hu g h1
          have := HRO.out.block v hv g h2
          omega
        · first | exact Nat.le_trans (Nat.le_trans hsz hsz2) HG.out.size | exact Nat.le_trans hsz hsz2
      case measure => simp [intOf]; omega
    · obtain rfl : k = ds.length := by omega
      go_wp2
      go_ret
      have hr0 : rest = [] := List.eq_nil_of_length_eq_zero (by have := hrest.out; omega)
      have hlen : ps.length = ds.length := by omega
      refine ⟨_, ps, rfl, ?_, ⟨?_, ?_, ?_⟩, he⟩
      · have := hps.out; rwa [List.take_length] at this
      · have := ho.out; rw [hr0, List.append_nil] at this; rw [hlen]; exact this
      · exact fun p hp => (hq.out p hp).down (by omega)
      · refine Far.cons hfar.out ?_
        intro u hu g h1 h2
        obtain ⟨p, hp, hu⟩ := List.mem_flatMap.1 hu
        have := (hq.out p hp).block u hu g h2
        have h1' : w.heap.size = g := by simpa [Value.ownBlock] using h1
        omega
set_option maxRecDepth 100000 in
set_option maxHeartbeats 4000000 in
theorem toValue_of (v : DVal) (H : ∀ x ∈ v.items, ToOk x) : ToOk v := by
  intro Ab cb Ai ci w h hz
  obtain ⟨hb, hi⟩ := h
  have z1 : v.bytes.length ≤ 1048576 := by have := bytes_le v; omega
  have z2 : szVs v.items ≤ 1048576 := by have := szVs_le_szV v; omega
  have C1 := Lib.hid (fun w h => toByteS_c Ab v.bytes cb w h z1)
  have C2 := Lib.hid (fun w h => toValueS_of Ai v.items ci w h H z2)
  have HDV : Hid (DVal.mk v.num v.bytes v.items = v) := v.eta
  unfold vval
  generalize v.num = num at *
  generalize v.bytes = bytes at *
  generalize v.items = items at *
  obtain ⟨W0, HW0, HA, HR, HO, eA, hsA⟩ := boxes3' w #[.int .i64 num, .slice Ab bytes.length cb, .slice Ai items.length ci] #[.int .i64 0, .slice none 0 0, .slice none 0 0] #[.int .i64 num, .slice none 0 0, .slice none 0 0] 28 39 39
  have HSA := Lib.hid hsA; clear hsA
  have HA0 := Lib.hid HA; have HR0 := Lib.hid HR; have HO0 := Lib.hid HO; clear HA HR HO H
  have hlb := hb.len; have hli := hi.len
  have HB := Lib.hid hb; have HI := Lib.hid hi
  clear hb hi hlb hli
  go_enter Tryz.func9, Tryz.ntmps9
  go_wp2_with fail
  rw [← HW0.out]
  refine (C1.out _ (HB.out.ext eA)).mono ?_; rintro _ w1 ⟨v1, rfl, ho1, he1⟩
  obtain ⟨A1, c1, rfl, _⟩ := OwnL.rd ho1 (by omega)
  have a1 := (HA0.out.ext he1).cell; have p1 := (HO0.out.ext he1).cell; have q1 := (HO0.out.ext he1).free
  have f1 : (Value.slice A1 bytes.length c1).ownBlock ≠ some (w.heap.size + 1 + 1) := OwnL.far ho1 (.inl (by have := HO0.out.lt; omega))
  have g1 : ∀ g, (Value.slice A1 bytes.length c1).ownBlock = some g → W0.heap.size ≤ g ∧ g < w1.heap.size := fun g hg => World.ownsRow.lt ho1 g hg
  have G1 := Lib.hid g1; have F1 := Lib.hid f1; have S1 := Lib.hid (by simp : w1.heap.size ≤ (w1.setCell ⟨w.heap.size + 1 + 1, 1, none⟩ (.slice A1 bytes.length c1)).heap.size); have T1 := Lib.hid he1.size
  have O11 := Lib.hid (OwnL.other ho1 ⟨w.heap.size + 1 + 1, 1, none⟩ (.slice A1 bytes.length c1) f1)
  have HA1 := Lib.hid ((HA0.out.ext he1).other (g' := w.heap.size + 1 + 1) (by omega) 1 (.slice A1 bytes.length c1)); have HR1 := Lib.hid ((HR0.out.ext he1).other (g' := w.heap.size + 1 + 1) (by omega) 1 (.slice A1 bytes.length c1)); have HO1 := Lib.hid ((HO0.out.ext he1).set 1 (.slice A1 bytes.length c1))
  have e1 := (eA.trans he1).setCell (p := ⟨w.heap.size + 1 + 1, 1, none⟩) (by show w.heap.size ≤ w.heap.size + 1 + 1; omega) (.slice A1 bytes.length c1)
  clear ho1 f1 g1 HA0 HR0 HO0 he1 eA
  go_wp2_with fail
  generalize w1.setCell ⟨w.heap.size + 1 + 1, 1, none⟩ (.slice A1 bytes.length c1) = W1 at *
  clear a1 p1 q1
  refine (C2.out _ (HI.out.ext e1)).mono ?_; rintro _ w2 ⟨v2, ps, rfl, hps, ho2, he2⟩
  obtain ⟨A2, c2, rfl⟩ := ho2.shape
  have hpl : ps.length = items.length := by rw [← hps, valsOf_len]
  have a2 := (HA1.out.ext he2).cell; have p2 := (HO1.out.ext he2).cell; have q2 := (HO1.out.ext he2).free
  have r2 := (HR1.out.ext he2).cell; have t2 := (HR1.out.ext he2).free
  have HPS := Lib.hid hps; have HPL := Lib.hid hpl
  have F2 : Hid (∀ u ∈ (Value.slice A2 ps.length c2) :: ps.flatMap VT.vals, ∀ g, u.ownBlock = some g → W1.heap.size ≤ g ∧ g < w2.heap.size) := ho2.block
  have hlt1 := HO1.out.lt
  have O22 := Lib.hid (ho2.keep (grown_set w2 ⟨w.heap.size + 1 + 1, 2, none⟩ (.slice A2 ps.length c2)) (fun u hu g hg he => by have := F2.out u hu g hg; injection he with he; simp only at he; omega))
  have O12 := Lib.hid (OwnL.other (O11.out.ext he2) ⟨w.heap.size + 1 + 1, 2, none⟩ (.slice A2 ps.length c2) F1.out)
  have S2 := Lib.hid (by simp : w2.heap.size ≤ (w2.setCell ⟨w.heap.size + 1 + 1, 2, none⟩ (.slice A2 ps.length c2)).heap.size); have T2 := Lib.hid he2.size
  have e2 := (e1.trans he2).setCell (p := ⟨w.heap.size + 1 + 1, 2, none⟩) (by show w.heap.size ≤ w.heap.size + 1 + 1; omega) (.slice A2 ps.length c2)
  have HL1 := Lib.hid hlt1
  clear ho2 HA1 HR1 HO1 he2 e1 O11 hps hlt1
  rw [hpl] at O22 O12 S2 e2 F2 ⊢
  clear hpl
  go_wp2
  have z0 := HSA.out
  have S1 := S1.out; have S2 := S2.out; have T1 := T1.out; have T2 := T2.out; have L1 := HL1.out
  have G := grown_put3 (w2.setCell ⟨w.heap.size + 1 + 1, 2, none⟩ (.slice A2 items.length c2)) (w.heap.size + 1) 0 (.mk num bytes (.slice A1 bytes.length c1) ps (.slice A2 items.length c2))
  refine bodyPost_ret (v := .agg #[.int .i64 num, .slice A1 bytes.length c1, .slice A2 items.length c2]) (by simp [results, Tryz.results9, go_sem, a2, p2, q2, r2, t2]) rfl ⟨.mk num bytes (.slice A1 bytes.length c1) ps (.slice A2 items.length c2), rfl, ⟨?_, ?_, ?_⟩, ?_⟩
  · rw [VT.val, HPS.out]; exact HDV.out
  · have o2 := (O22.out.keep G (fun u hu g hg he => by have := F2.out u hu g hg; injection he with he; omega)).down (w0 := w) (by omega)
    exact .mk ((OwnL.keep O12.out G (fun g hg he => by have := G1.out g hg; injection he with he; omega)).down (by omega)) o2.row o2.each
  · rw [VT.vals_eq]
    refine Far.cons O22.out.far ?_
    intro u hu g h1 h2
    have := G1.out g h1
    have := F2.out u hu g h2
    omega
  · exact e2.grown G (fun g hg => by injection hg with hg; omega)
theorem toOk_all : ∀ v, ToOk v := fun v => DVal.ind toValue_of v
theorem toValue_c (v : DVal) (Ab : Option Addr) (cb : Nat) (Ai : Option Addr) (ci : Nat) (w : World) (h : RdV w v Ab cb Ai ci) (hz : szV v ≤ 1048576) :
    Calls Tryz.prog 9 #[vval v (.slice Ab v.bytes.length cb) (.slice Ai v.items.length ci)] w fun e w' => ∃ t, e = .returned (vval v t.vb t.vi) ∧ GotV w w' t v ∧ Ext w w' := toOk_all v Ab cb Ai ci w h hz
end Go.Proofs.YtjckcbfpejcpcaaGreatDoor

/- The program's and the reference's copies of rules. -/
namespace Go.Proofs.YtjckcbfpejcpcaaGreatDoor
open Go.RowKit Go.Sort

theorem boxes2' (w : World) (c0 c1 : Array Value) (T0 T1 : TypeId) :
    ∃ W, Hid (W = ((w.alloc (.cells c0 T0)).alloc (.cells c1 T1))) ∧ Box W w.heap.size c0 T0 ∧ Box W (w.heap.size + 1) c1 T1 ∧ Ext w W ∧ W.heap.size = w.heap.size + 2 := by
  have s1 : (w.alloc (.cells c0 T0)).heap.size = w.heap.size + 1 := by simp
  have h1 := Box.new (w.alloc (.cells c0 T0)) c1 T1
  rw [s1] at h1
  exact ⟨_, rfl, (Box.new w c0 T0).ext (Ext_alloc _ (Ext.refl _)), h1, Ext_alloc _ (Ext_alloc _ (Ext.refl w)), by simp⟩
theorem src0 {α : Type} {f : α → Value} {w w' : World} {A : Option Addr} {l : List α} {c : Nat} (h : Rd0 f w A l c) (e : Ext w w') (hp : 0 < l.length) : ∃ ad, A = some ad ∧ ∀ j u, (l.map f)[j]? = some u → w'.cell? (ad.add j) = some u := by
  obtain ⟨b, off, hA, _, hc⟩ := h.2.2 hp
  refine ⟨_, hA, fun j u hu => ?_⟩
  have := part_cells (fun i hi => hc w' e i hi) 0 l.length j u
  simp only [List.drop_zero, List.take_length, Nat.add_zero] at this
  exact this hu
end Go.Proofs.YtjckcbfpejcpcaaGreatDoor

/- CopyDescription of the program and of the reference: the walks. -/
namespace Go.Proofs.YtjckcbfpejcpcaaGreatDoor
open Go.RowKit Go.Sort

section
variable {P : Program} {ops : Array Oper} {o : Oper} {a : Act} {Q : Exit → Act → World → Prop} {K : Act → World → Prop} {E : Prop}
/-- append, elements of any size, as one step of a region that draws -/
theorem step_app8 (hgd : o.guard = none) (s x : Operand) (t : TypeId) (ho : o.op = .call { callee := .builtin .append, args := #[s, x], argTypes := #[t, t] })
    {e : TypeId} {size bytes : Nat} {z : Value} (hE : Elem P t e size bytes z) (w0 w : World) (v : Value) (n : Nat) (xs : List Value) (hs : a.eval s = v) (hown : Own e size w0 w v n xs) (he : w0.heap.size ≤ w.heap.size)
    (ad : Addr) (m c : Nat) (news : List Value) (hx : a.eval x = .slice (some ad) m c) (hl : news.length = m * size) (hA : ∀ j u, news[j]? = some u → w.cell? (ad.add j) = some u) (h1 : ∀ u ∈ news, u.oneCell' = true)
    (hm : n + m ≤ maxLen) (hb : (n + m) * bytes ≤ 140737488355328)
    (h : ∀ v' w', Own e size w0 w' v' (n + m) (xs ++ news) → w.grownBy w' v.ownBlock → (v'.ownBlock = v.ownBlock ∨ v'.ownBlock = some w.heap.size) → K (a.put o.dst v') w') :
    if Region.wanted o (yielded ops a.tmps) = true then Oper.wp P o a w K Q else E := by
  have hw : Region.wanted o (yielded ops a.tmps) = true := by simp [Region.wanted, hgd]
  rw [if_pos hw]
  obtain ⟨i0, hi0, hz0, hz1, hz2⟩ := info_parts hE.hi
  obtain ⟨v', w', hr, h2, h3, h4, h5⟩ := run_append_own_at (P := P) w w0.heap.size t o.type e i0 z size bytes hE.ht hi0 hz0 hz1 hz2 hE.hz hE.hs v n xs hown ad m c news hl hA h1 hm hb he
  unfold Oper.wp execOp
  simp only [ho, resolve, invoke, builtin, Sem.run_bind, Sem.run_pure, Result.andThen_ok, List.map_toArray, List.map_cons, List.map_nil, hs, hx, hr]
  exact h v' w' h2 h3 h5
end
theorem vals_cells_one (p : RV) {w0 w : World} (h : RuleOwn w0 w p) (hs : ShortR p.r) : ∀ u ∈ p.cells, u.oneCell' = true := by
  obtain ⟨Ab, cb, An, cn, At, ct, Ak, ck, h1, h2, h3, h4, _⟩ := h.rd hs
  exact RV.cells_one p (by rw [h1]; rfl) (by rw [h2]; rfl) (by rw [h3]; rfl) (by rw [h4]; rfl)
theorem OwnD.snoc {W0 wr w2 w4 : World} {v v' : Value} {ps : List RV} {p : RV} (h : OwnD W0 wr v ps) (e2 : Ext wr w2) (hro : RuleOwn wr w2 p) (hfr : Far p.vals) (hb : W0.heap.size ≤ wr.heap.size) {cs : Array Value} {T : TypeId}
    (ho4 : Own 97 8 W0 w4 v' (ps.length + 1) (ps.flatMap RV.cells ++ p.cells)) (hg4 : (w2.alloc (.cells cs T)).grownBy w4 v.ownBlock) (hv : v'.ownBlock = v.ownBlock ∨ v'.ownBlock = some (w2.alloc (.cells cs T)).heap.size) : OwnD W0 w4 v' (ps ++ [p]) := by
  have ex := Ext_alloc (.cells cs T) (Ext.refl w2)
  have hsz : (w2.alloc (.cells cs T)).heap.size = w2.heap.size + 1 := by simp
  have hbl := h.block
  have hfar := h.far
  unfold Far at hfar
  rw [List.pairwise_cons] at hfar
  have hs2 := e2.size
  refine ⟨?_, fun q hq => ?_, ?_⟩
  · rw [List.length_append, List.flatMap_append, List.flatMap_cons, List.flatMap_nil, List.append_nil]; exact ho4
  · rcases List.mem_append.1 hq with hq | hq
    · refine (((h.each q hq).ext e2).ext ex).keep hg4 (fun u hu g hg he => ?_)
      exact hfar.1 u (List.mem_flatMap.2 ⟨q, hq, hu⟩) g he hg
    · obtain rfl := List.mem_singleton.1 hq
      refine ((hro.ext ex).keep hg4 (fun u hu g hg he => ?_)).down hb
      have h1 := (hro.block u hu g hg).1
      have h2 := (hbl v (List.mem_cons_self ..) g he).2
      omega
  · rw [List.flatMap_append, List.flatMap_cons, List.flatMap_nil, List.append_nil]
    have hold : ∀ u ∈ ps.flatMap RV.vals, ∀ g, u.ownBlock = some g → g < wr.heap.size := fun u hu g hg => (hbl u (List.mem_cons_of_mem _ hu) g hg).2
    have hnew : ∀ u ∈ p.vals, ∀ g, u.ownBlock = some g → wr.heap.size ≤ g ∧ g < w2.heap.size := fun u hu g hg => hro.block u hu g hg
    refine Far.cons (Far.append hfar.2 hfr (fun u hu x hx g h1 h2 => by have := hold u hu g h1; have := (hnew x hx g h2).1; omega)) (fun x hx g h1 h2 => ?_)
    rcases hv with hv | hv
    · rw [hv] at h1
      rcases List.mem_append.1 hx with hx | hx
      · exact hfar.1 x hx g h1 h2
      · have := (hbl v (List.mem_cons_self ..) g h1).2; have := (hnew x hx g h2).1; omega
    · rw [hv, hsz] at h1
      injection h1 with h1
      rcases List.mem_append.1 hx with hx | hx
      · have := hold x hx g h2; omega
      · have := (hnew x hx g h2).2; omega
theorem size_drew (w : World) : w.drew.heap.size = w.heap.size := rfl
end Go.Proofs.YtjckcbfpejcpcaaGreatDoor

/- Plain laws of runs of equal bytes: no program in sight. -/
namespace Go.Proofs.YtjckcbfpejcpcaaGreatDoor

def runLen : List UInt8 → Nat
  | [] => 0
  | x :: t => 1 + (t.takeWhile (· == x)).length

/-- how many equal bytes begin at an index -/
def runAt (l : List UInt8) (i : Int) : Nat := if 0 ≤ i ∧ i < l.length then runLen (l.drop i.toNat) else 0

theorem takeWhile_len {t : List UInt8} {x : UInt8} : ∀ (k : Nat), (∀ j, j < k → t[j]? = some x) → (t[k]? ≠ some x) → (t.takeWhile (· == x)).length = k := by
  induction t with
  | nil => intro k h _; cases k with
    | zero => rfl
    | succ k => have := h 0 (by omega); simp at this
  | cons y t ih =>
    intro k h hn
    cases k with
    | zero =>
      have : y ≠ x := by simpa using hn
      simp [this]
    | succ k =>
      have hy : y = x := by simpa using h 0 (by omega)
      subst hy
      rw [List.takeWhile_cons]
      simp
      exact ih k (fun j hj => by simpa using h (j+1) (by omega)) (by simpa using hn)

theorem runLen_drop {l : List UInt8} {a k : Nat} (hk : 1 ≤ k) (h : ∀ j, j < k → l[a+j]? = l[a]?) (ha : a < l.length) (hn : l[a+k]? ≠ l[a]?) : runLen (l.drop a) = k := by
  rw [List.drop_eq_getElem_cons ha]
  have hx : l[a]? = some l[a] := by simp [ha]
  rw [hx] at h hn
  have := takeWhile_len (t := l.drop (a+1)) (x := l[a]) (k-1) (fun j hj => by rw [List.getElem?_drop]; have := h (j+1) (by omega); rwa [show a + (j+1) = a + 1 + j by omega] at this) (by rw [List.getElem?_drop]; rwa [show a + 1 + (k-1) = a + k by omega])
  simp only [runLen, this]; omega
theorem runAt_eq {l : List UInt8} {a k : Nat} (hk : 1 ≤ k) (h : ∀ j, j < k → l[a+j]? = l[a]?) (ha : a < l.length) (hn : l[a+k]? ≠ l[a]?) : runAt l a = k := by
  unfold runAt; rw [if_pos (by omega)]; simpa using runLen_drop hk h ha hn
theorem runAt_out {l : List UInt8} {i : Int} (h : ¬ (0 ≤ i ∧ i < l.length)) : runAt l i = 0 := by
  unfold runAt; rw [if_neg h]
theorem takeWhile_spec (t : List UInt8) (x : UInt8) : (t.takeWhile (· == x)).length ≤ t.length ∧ (∀ j, j < (t.takeWhile (· == x)).length → t[j]? = some x) ∧ t[(t.takeWhile (· == x)).length]? ≠ some x := by
  induction t with
  | nil => simp
  | cons y t ih =>
    by_cases hy : y = x
    · subst hy
      rw [List.takeWhile_cons]
      simp only [BEq.rfl, if_true, List.length_cons]
      refine ⟨by omega, fun j hj => ?_, by simp; exact ih.2.2⟩
      cases j with
      | zero => rfl
      | succ j => simpa using ih.2.1 j (by omega)
    · rw [List.takeWhile_cons]
      simp [hy]
/-- what a run is, at an index within the list -/
theorem runAt_spec (l : List UInt8) (a : Nat) (ha : a < l.length) : 1 ≤ runAt l a ∧ a + runAt l a ≤ l.length ∧ (∀ j, j < runAt l a → l[a+j]? = l[a]?) ∧ l[a + runAt l a]? ≠ l[a]? := by
  unfold runAt
  rw [if_pos (by omega), Int.toNat_natCast, List.drop_eq_getElem_cons ha]
  have hx : l[a]? = some l[a] := by simp [ha]
  obtain ⟨h1, h2, h3⟩ := takeWhile_spec (l.drop (a+1)) l[a]
  simp only [runLen]
  rw [hx]
  generalize (List.takeWhile (fun x => x == l[a]) (List.drop (a + 1) l)).length = m at *
  rw [List.length_drop] at h1
  refine ⟨by omega, by omega, fun j hj => ?_, ?_⟩
  · cases j with
    | zero => exact hx
    | succ j => have := h2 j (by omega); rw [List.getElem?_drop] at this; rwa [show a + (j+1) = a + 1 + j by omega]
  · rw [List.getElem?_drop] at h3; rwa [show a + (1 + m) = a + 1 + m by omega]

/-- the number of maximal runs from an index on -/
def countFrom (l : List UInt8) : Nat → Nat → Nat
  | 0, _ => 0
  | f + 1, a => if a < l.length then 1 + countFrom l f (a + runAt l a) else 0
def countRuns (l : List UInt8) : Nat := countFrom l l.length 0
theorem countFrom_fuel (l : List UInt8) : ∀ f g a, l.length - a ≤ f → l.length - a ≤ g → countFrom l f a = countFrom l g a := by
  intro f
  induction f with
  | zero =>
    intro g a h _
    cases g with
    | zero => rfl
    | succ g => rw [countFrom, countFrom, if_neg (by omega)]
  | succ f ih =>
    intro g a h1 h2
    cases g with
    | zero => rw [countFrom, countFrom, if_neg (by omega)]
    | succ g =>
      rw [countFrom, countFrom]
      by_cases ha : a < l.length
      · have := (runAt_spec l a ha).1
        rw [if_pos ha, if_pos ha, ih g _ (by omega) (by omega)]
      · rw [if_neg ha, if_neg ha]
theorem countFrom_step (l : List UInt8) (a : Nat) (ha : a < l.length) : countFrom l l.length a = 1 + countFrom l l.length (a + runAt l a) := by
  have := (runAt_spec l a ha).1
  rw [countFrom_fuel l l.length (l.length + 1) a (by omega) (by omega), countFrom, if_pos ha]
theorem countFrom_end (l : List UInt8) (a : Nat) (ha : l.length ≤ a) : countFrom l l.length a = 0 := by
  rw [countFrom_fuel l l.length 0 a (by omega) (by omega), countFrom]
theorem countFrom_le (l : List UInt8) : ∀ f a, countFrom l f a ≤ f := by
  intro f
  induction f with
  | zero => intro a; simp [countFrom]
  | succ f ih => intro a; rw [countFrom]; split; have := ih (a + runAt l a); omega; omega
theorem runAt_le (l : List UInt8) (i : Int) : runAt l i ≤ l.length := by
  unfold runAt
  split
  · rename_i h
    have := (runAt_spec l i.toNat (by omega)).2.1
    unfold runAt at this; rw [if_pos (by omega), Int.toNat_natCast] at this; omega
  · omega
end Go.Proofs.YtjckcbfpejcpcaaGreatDoor

/- RunAt and CountRuns of the program and of the reference. -/
namespace Go.Proofs.YtjckcbfpejcpcaaGreatDoor
open Go.RowKit Go.Sort

set_option maxHeartbeats 400000 in
theorem l1In_c (n a b : Int) (w : World) : Gives Tryz.prog 80 #[.int .i64 n, .int .i64 a, .int .i64 b] w (.bool (decide (a ≤ n) && decide (n ≤ b))) := by
  by_cases h : a ≤ n
  · go_enter Tryz.func80, Tryz.ntmps80
    go_wp2
    go_ret
    exact ⟨ret_bool (by simp [h]), Ext.refl _⟩
  · go_enter Tryz.func80, Tryz.ntmps80
    go_wp2
    go_ret
    exact ⟨ret_bool (by simp; omega), Ext.refl _⟩

theorem runs_step {l : List UInt8} {a k : Nat} (hlt : a + k < l.length) (ha : a < l.length) (hs : ∀ j, j < k → l[a+j]? = l[a]?) (e : l[a+k] = l[a]) : ∀ j, j < k + 1 → l[a+j]? = l[a]? := by
  intro j hj
  by_cases h : j < k
  · exact hs j h
  · obtain rfl : j = k := by omega
    rw [List.getElem?_eq_getElem hlt, List.getElem?_eq_getElem ha, e]

end Go.Proofs.YtjckcbfpejcpcaaGreatDoor

/- SumOfBytes, BigEndian, ReadInteger. -/
namespace Go.Proofs.YtjckcbfpejcpcaaGreatDoor
open Go.RowKit Go.Sort

/-- the sum of bytes -/
def sumB : List UInt8 → Nat
  | [] => 0
  | x :: t => x.toNat + sumB t
theorem sumB_append (a b : List UInt8) : sumB (a ++ b) = sumB a + sumB b := by
  induction a with
  | nil => simp [sumB]
  | cons x t ih => simp [sumB, ih]; omega
theorem sumB_take {l : List UInt8} {k : Nat} (h : k < l.length) : sumB (l.take (k+1)) = sumB (l.take k) + l[k].toNat := by
  rw [List.take_succ_eq_append_getElem h, sumB_append]; simp [sumB]
theorem sumB_le (l : List UInt8) : sumB l ≤ 255 * l.length := by
  induction l with
  | nil => simp [sumB]
  | cons x t ih => have := x.toNat_lt; simp only [sumB, List.length_cons]; omega

end Go.Proofs.YtjckcbfpejcpcaaGreatDoor

/- Plain laws of packing: no program in sight. -/
namespace Go.Proofs.YtjckcbfpejcpcaaGreatDoor

/-- where the bytes that are laid as they are end -/
def litF (l : List UInt8) (a : Nat) : Nat → Nat → Nat
  | 0, k => k
  | f + 1, k => if k < l.length ∧ k - a < 127 ∧ runAt l k < 3 then litF l a f (k + 1) else k
def litEnd (l : List UInt8) (a k : Nat) : Nat := litF l a (l.length - k) k
theorem litEnd_step {l : List UInt8} {a k : Nat} (h : k < l.length ∧ k - a < 127 ∧ runAt l k < 3) : litEnd l a k = litEnd l a (k + 1) := by
  unfold litEnd
  obtain ⟨n, hn⟩ : ∃ n, l.length - k = n + 1 := ⟨l.length - k - 1, by omega⟩
  rw [hn, litF, if_pos h, show l.length - (k + 1) = n by omega]
theorem litEnd_stop {l : List UInt8} {a k : Nat} (h : ¬ (k < l.length ∧ k - a < 127 ∧ runAt l k < 3)) : litEnd l a k = k := by
  unfold litEnd
  cases l.length - k with
  | zero => rfl
  | succ n => rw [litF, if_neg h]
theorem litF_ge (l : List UInt8) (a : Nat) : ∀ f k, k ≤ litF l a f k := by
  intro f
  induction f with
  | zero => intro k; exact Nat.le_refl _
  | succ f ih => intro k; rw [litF]; split; exact Nat.le_trans (Nat.le_succ k) (ih (k+1)); exact Nat.le_refl _
theorem litF_le (l : List UInt8) (a : Nat) : ∀ f k, k ≤ l.length → k - a ≤ 127 → litF l a f k ≤ l.length ∧ litF l a f k - a ≤ 127 := by
  intro f
  induction f with
  | zero => intro k h1 h2; exact ⟨h1, h2⟩
  | succ f ih => intro k h1 h2; rw [litF]; split; exact ih (k+1) (by omega) (by omega); exact ⟨h1, h2⟩
theorem litEnd_ge (l : List UInt8) (a k : Nat) : k ≤ litEnd l a k := litF_ge l a _ k
theorem litEnd_le {l : List UInt8} {a k : Nat} (h1 : k ≤ l.length) (h2 : k - a ≤ 127) : litEnd l a k ≤ l.length ∧ litEnd l a k - a ≤ 127 := litF_le l a _ k h1 h2
theorem litEnd_gt {l : List UInt8} {a : Nat} (h : a < l.length) (hr : runAt l a < 3) : litEnd l a a = litEnd l a (a + 1) := litEnd_step ⟨h, by omega, hr⟩

/-- what stands for the bytes from an index on -/
def packF (l : List UInt8) : Nat → Nat → List UInt8
  | 0, _ => []
  | f + 1, a =>
    if h : a < l.length then
      if 3 ≤ runAt l a then UInt8.ofNat (128 + min (runAt l a) 127) :: l[a] :: packF l f (a + min (runAt l a) 127)
      else UInt8.ofNat (litEnd l a a - a) :: ((l.drop a).take (litEnd l a a - a) ++ packF l f (litEnd l a a))
    else []
theorem packF_fuel (l : List UInt8) : ∀ f g a, l.length - a ≤ f → l.length - a ≤ g → packF l f a = packF l g a := by
  intro f
  induction f with
  | zero =>
    intro g a h _
    cases g with
    | zero => rfl
    | succ g => rw [packF, packF, dif_neg (by omega)]
  | succ f ih =>
    intro g a h1 h2
    cases g with
    | zero => rw [packF, packF, dif_neg (by omega)]
    | succ g =>
      rw [packF, packF]
      by_cases ha : a < l.length
      · rw [dif_pos ha, dif_pos ha]
        by_cases hr : 3 ≤ runAt l a
        · rw [if_pos hr, if_pos hr, ih g _ (by omega) (by omega)]
        · have := litEnd_ge l a (a+1)
          rw [if_neg hr, if_neg hr, litEnd_gt ha (by omega), ih g _ (by omega) (by omega)]
      · rw [dif_neg ha, dif_neg ha]
def packAt (l : List UInt8) (a : Nat) : List UInt8 := packF l l.length a
def pack (l : List UInt8) : List UInt8 := packAt l 0
theorem packAt_end {l : List UInt8} {a : Nat} (h : l.length ≤ a) : packAt l a = [] := by
  unfold packAt; rw [packF_fuel l l.length 0 a (by omega) (by omega), packF]
theorem packAt_run {l : List UInt8} {a : Nat} (h : a < l.length) (hr : 3 ≤ runAt l a) : packAt l a = UInt8.ofNat (128 + min (runAt l a) 127) :: l[a] :: packAt l (a + min (runAt l a) 127) := by
  unfold packAt; rw [packF_fuel l l.length (l.length + 1) a (by omega) (by omega), packF, dif_pos h, if_pos hr]
theorem packAt_lit {l : List UInt8} {a : Nat} (h : a < l.length) (hr : ¬ 3 ≤ runAt l a) : packAt l a = UInt8.ofNat (litEnd l a a - a) :: ((l.drop a).take (litEnd l a a - a) ++ packAt l (litEnd l a a)) := by
  unfold packAt; rw [packF_fuel l l.length (l.length + 1) a (by omega) (by omega), packF, dif_pos h, if_neg hr]
/-- three equal bytes begin at an index -/
theorem run3 {l : List UInt8} {a : Nat} : (3 ≤ runAt l a) ↔ (a + 2 < l.length ∧ l[a]? = l[a+1]? ∧ l[a]? = l[a+2]?) := by
  by_cases ha : a < l.length
  · obtain ⟨h1, h2, h3, h4⟩ := runAt_spec l a ha
    constructor
    · intro h
      exact ⟨by omega, (h3 1 (by omega)).symm, (h3 2 (by omega)).symm⟩
    · rintro ⟨g1, g2, g3⟩
      rcases Nat.lt_or_ge (runAt l a) 3 with hlt | hge
      · rcases (by omega : runAt l a = 1 ∨ runAt l a = 2) with e | e
        · rw [e] at h4; exact absurd g2.symm h4
        · rw [e] at h4; exact absurd g3.symm h4
      · exact hge
  · rw [runAt_out (by omega)]; omega
theorem packF_le (l : List UInt8) : ∀ f a, a ≤ l.length → (packF l f a).length ≤ 2 * (l.length - a) := by
  intro f
  induction f with
  | zero => intro a _; simp [packF]
  | succ f ih =>
    intro a ha
    rw [packF]
    split
    · rename_i h
      split
      · rename_i hr
        have h2 := (runAt_spec l a h).2.1
        have := ih (a + min (runAt l a) 127) (by omega)
        simp only [List.length_cons]; omega
      · rename_i hr
        have h1 := litEnd_ge l a (a+1)
        rw [litEnd_gt h (by omega)]
        have h2 := (litEnd_le (l := l) (a := a) (k := a+1) (by omega) (by omega)).1
        have := ih (litEnd l a (a+1)) (by omega)
        simp only [List.length_cons, List.length_append, List.length_take, List.length_drop]; omega
    · simp
theorem packAt_le (l : List UInt8) (a : Nat) (h : a ≤ l.length) : (packAt l a).length ≤ 2 * (l.length - a) := packF_le l _ a h
theorem pack_le (l : List UInt8) : (pack l).length ≤ 2 * l.length := packAt_le l 0 (by omega)
end Go.Proofs.YtjckcbfpejcpcaaGreatDoor

/- Plain laws of unpacking: no program in sight. -/
namespace Go.Proofs.YtjckcbfpejcpcaaGreatDoor

def unpackF : Nat → List UInt8 → List UInt8 → Option (List UInt8)
  | _, [], out => some out
  | 0, _ :: _, _ => none
  | f + 1, x :: t, out =>
    if x = 0 ∨ x = 128 ∨ t = [] then none
    else if x < 128 then
      if t.length < x.toNat then none
      else if 1000 < (out ++ t.take x.toNat).length then none
      else unpackF f (t.drop x.toNat) (out ++ t.take x.toNat)
    else
      if 1000 < (out ++ List.replicate (x.toNat - 128) (t.headD 0)).length then none
      else unpackF f t.tail (out ++ List.replicate (x.toNat - 128) (t.headD 0))
/-- what bytes are unpacked to, if they can be -/
def unpack (l : List UInt8) : Option (List UInt8) := unpackF l.length l []
theorem unpackF_fuel : ∀ f g b out, b.length ≤ f → b.length ≤ g → unpackF f b out = unpackF g b out := by
  intro f
  induction f with
  | zero =>
    intro g b out h _
    obtain rfl : b = [] := List.eq_nil_of_length_eq_zero (by omega)
    cases g <;> rfl
  | succ f ih =>
    intro g b out h1 h2
    cases b with
    | nil => cases g <;> rfl
    | cons x t =>
      cases g with
      | zero => simp at h2
      | succ g =>
        simp only [List.length_cons] at h1 h2
        simp only [unpackF]
        rw [ih g (t.drop x.toNat) _ (by rw [List.length_drop]; omega) (by rw [List.length_drop]; omega), ih g t.tail _ (by rw [List.length_tail]; omega) (by rw [List.length_tail]; omega)]
/-- what is left to do at an index -/
def unpackAt (l : List UInt8) (a : Nat) (out : List UInt8) : Option (List UInt8) := unpackF l.length (l.drop a) out
theorem unpackAt_end (l : List UInt8) (a : Nat) (out : List UInt8) (h : l.length ≤ a) : unpackAt l a out = some out := by
  unfold unpackAt; rw [List.drop_of_length_le h]; cases l.length <;> rfl
theorem unpackAt_step (l : List UInt8) (a : Nat) (out : List UInt8) (h : a < l.length) : unpackAt l a out =
    if l[a] = 0 ∨ l[a] = 128 ∨ l.length = a + 1 then none
    else if l[a] < 128 then
      if l.length < a + 1 + l[a].toNat then none
      else if 1000 < out.length + l[a].toNat then none
      else unpackAt l (a + 1 + l[a].toNat) (out ++ (l.drop (a+1)).take l[a].toNat)
    else
      if 1000 < out.length + (l[a].toNat - 128) then none
      else unpackAt l (a + 2) (out ++ List.replicate (l[a].toNat - 128) ((l.drop (a+1)).headD 0)) := by
  unfold unpackAt
  obtain ⟨n, hn⟩ : ∃ n, l.length = n + 1 := ⟨l.length - 1, by omega⟩
  have e0 : l.drop a = l[a] :: l.drop (a+1) := List.drop_eq_getElem_cons h
  have e1 : ((l.drop (a+1) = []) ↔ l.length = a + 1) := by rw [List.drop_eq_nil_iff]; omega
  have hl1 : (l.drop (a+1)).length = l.length - (a+1) := List.length_drop
  rw [e0]
  conv => lhs; rw [hn]
  simp only [unpackF, e1, List.drop_drop, List.tail_drop, List.length_append, List.length_replicate, List.length_take, hl1]
  by_cases c1 : l[a] = 0 ∨ l[a] = 128 ∨ l.length = a + 1
  · rw [if_pos c1, if_pos c1]
  · rw [if_neg c1, if_neg c1]
    by_cases c2 : l[a] < 128
    · rw [if_pos c2, if_pos c2]
      by_cases c3 : l.length < a + 1 + l[a].toNat
      · rw [if_pos (by omega), if_pos c3]
      · rw [if_neg (by omega), if_neg c3, Nat.min_eq_left (by omega)]
        by_cases c4 : 1000 < out.length + l[a].toNat
        · rw [if_pos c4, if_pos c4]
        · rw [if_neg c4, if_neg c4]
          exact unpackF_fuel _ _ _ _ (by rw [List.length_drop]; omega) (by rw [List.length_drop]; omega)
    · rw [if_neg c2, if_neg c2]
      by_cases c4 : 1000 < out.length + (l[a].toNat - 128)
      · rw [if_pos c4, if_pos c4]
      · rw [if_neg c4, if_neg c4]
        exact unpackF_fuel _ _ _ _ (by rw [List.length_drop]; omega) (by rw [List.length_drop]; omega)
end Go.Proofs.YtjckcbfpejcpcaaGreatDoor

/- Records by value: the laws' helpers and EqualRecords. -/
namespace Go.Proofs.YtjckcbfpejcpcaaGreatDoor
open Go.RowKit Go.Sort

def vrec (k : Int) (nm : ByteArray) (ver : Int) (v : Value) : Value := .agg #[.int .i64 k, .string nm, .int .i64 ver, v]
/-- what is left of the size of a record -/
def szR (n m : Nat) (left : Int) : Int := if szN n left < 0 then -1 else szN m (szN n left)
end Go.Proofs.YtjckcbfpejcpcaaGreatDoor

/- IsName of the program and of the reference. -/
namespace Go.Proofs.YtjckcbfpejcpcaaGreatDoor
open Go.RowKit Go.Sort

/-- may this byte stand at this place of a name -/
def nameCh (i : Nat) (x : UInt8) : Bool := decide (97 ≤ x.toNat ∧ x.toNat ≤ 122) || (decide (48 ≤ x.toNat ∧ x.toNat ≤ 57) && decide (i ≠ 0))
def okCh (s : ByteArray) (i : Nat) : Bool := if h : i < s.size then nameCh i s[i] else true
def isName (s : ByteArray) : Bool := decide (1 ≤ s.size ∧ s.size ≤ 12) && (List.range s.size).all (okCh s)
theorem isName_no {s : ByteArray} {k : Nat} (hk : k < s.size) (h : okCh s k = false) : isName s = false := by
  unfold isName
  rw [Bool.and_eq_false_iff]; right
  rw [Bool.eq_false_iff]
  intro hall
  have := List.all_eq_true.1 hall k (by simpa using hk)
  rw [h] at this; cases this
theorem isName_all {s : ByteArray} (h : ∀ j, j < s.size → okCh s j = true) : isName s = decide (1 ≤ s.size ∧ s.size ≤ 12) := by
  unfold isName
  rw [List.all_eq_true.2 (fun j hj => h j (by simpa using hj)), Bool.and_true]
theorem okCh_at {s : ByteArray} {k : Nat} (hk : k < s.size) : okCh s k = nameCh k s[k] := dif_pos hk

set_option maxRecDepth 100000 in
set_option maxHeartbeats 2000000 in
theorem sIsName_c (s : ByteArray) (w : World) (hs : s.size ≤ 9223372036854775807) : Gives Tryz.prog 118 #[.string s] w (.bool (isName s)) := by
  go_enter Tryz.func118, Tryz.ntmps118
  go_wp2
  go_loopw [3] (fun i wr => ∃ k : Nat, k ≤ s.size ∧ i = .int .i64 k ∧ Hid (∀ j, j < k → okCh s j = true) ∧ Ext w wr) (fun i _ => s.size - (intOf i).toNat)
  case atStart => exact ⟨0, by omega, rfl, (fun j hj => by omega), Ext.refl _⟩
  case round =>
    obtain ⟨k, hk, rfl, ho, he⟩ := hrel
    by_cases hlt : k < s.size
    · have hb : (s[k].toNat : Int) ≤ 255 := by have := s[k].toNat_lt; omega
      have hok := Lib.hid (okCh_at hlt)
      rcases (by omega : (s[k].toNat : Int) < 48 ∨ ((48 : Int) ≤ s[k].toNat ∧ (s[k].toNat : Int) ≤ 57 ∧ k = 0) ∨ ((48 : Int) ≤ s[k].toNat ∧ (s[k].toNat : Int) ≤ 57 ∧ 0 < k) ∨ ((57 : Int) < s[k].toNat ∧ (s[k].toNat : Int) < 97) ∨ ((97 : Int) ≤ s[k].toNat ∧ (s[k].toNat : Int) ≤ 122) ∨ (122 : Int) < s[k].toNat) with c | ⟨c, c', rfl⟩ | ⟨c, c', c''⟩ | ⟨c, c'⟩ | ⟨c, c'⟩ | c
      all_goals
        go_wp2
        all_goals first
          | (exfalso
             have hq : (!decide ((s[k].toNat : Int) ≤ 122)) = false := by assumption
             simp at hq
             omega)
          | (go_ret
             refine ⟨ret_bool ?_, he⟩
             rw [isName_no hlt]
             rw [hok.out]; unfold nameCh; simp; omega)
          | (go_roundw
             case rel => exact ⟨k+1, by omega, by go_num, (fun j hj => by
               rcases (by omega : j < k ∨ j = k) with hj | rfl
               · exact ho.out j hj
               · rw [hok.out]; unfold nameCh; simp; omega), he⟩
             case measure => simp [intOf]; omega)
    · obtain rfl : k = s.size := by omega
      have HE := Lib.hid (isName_all ho.out)
      go_wp2_with (go_at_call 80; refine (l1In_c _ _ _ _).mono ?_; rintro _ w1 ⟨rfl, he1⟩)
      go_ret
      refine ⟨ret_bool ?_, he.trans he1⟩
      rw [HE.out, Bool.eq_iff_iff]; simp; omega

set_option maxRecDepth 100000 in
set_option maxHeartbeats 2000000 in
theorem iIsName_c (s : ByteArray) (w : World) (hs : s.size ≤ 9223372036854775807) : Gives Tryz.prog 133 #[.string s] w (.bool (isName s)) := by
  by_cases hlen : 1 ≤ s.size ∧ s.size ≤ 12
  · obtain ⟨hlo, hhi⟩ := hlen
    have d1 : decide ((s.size : Int) < 1) = false := by simp; omega
    have d2 : decide ((12 : Int) < (s.size : Int)) = false := by simp; omega
    go_enter Tryz.func133, Tryz.ntmps133
    go_wp2
    go_loopw [3, 4, 5, 6] (fun _ _ _ _ wr => ∃ k : Nat, k ≤ s.size ∧ Hid (∀ j, j < k → okCh s j = true) ∧ wr = w.iter s k) (fun _ _ _ _ wr => s.size - wr.iterPos w.heap.size)
    case atStart => exact ⟨0, by omega, (fun j hj => by omega), rfl⟩
    case round =>
      obtain ⟨k, hk, ho, rfl⟩ := hrel
      by_cases hlt : k < s.size
      · have hok := Lib.hid (okCh_at hlt)
        by_cases ha : s[k].toNat < 128
        · have hnx : ∀ ty, (Instr.next (.pointer (some ⟨w.heap.size, 0, none⟩)) true ty).run Tryz.prog (w.iter s k) = _ := fun ty => run_next_ascii w s k ty hlt ha
          rcases (by omega : (s[k].toNat : Int) < 48 ∨ ((48 : Int) ≤ s[k].toNat ∧ (s[k].toNat : Int) ≤ 57 ∧ k = 0) ∨ ((48 : Int) ≤ s[k].toNat ∧ (s[k].toNat : Int) ≤ 57 ∧ 0 < k) ∨ ((57 : Int) < s[k].toNat ∧ (s[k].toNat : Int) < 97) ∨ ((97 : Int) ≤ s[k].toNat ∧ (s[k].toNat : Int) ≤ 122) ∨ (122 : Int) < s[k].toNat) with c | ⟨c, c', rfl⟩ | ⟨c, c', c''⟩ | ⟨c, c'⟩ | ⟨c, c'⟩ | c
          all_goals
            go_wp2
            all_goals first
              | (exfalso
                 have hq : (!decide ((s[k].toNat : Int) ≤ 122)) = false := by assumption
                 simp at hq
                 omega)
              | (go_ret
                 refine ⟨ret_bool ?_, Ext_alloc _ (Ext.refl w)⟩
                 rw [isName_no hlt]
                 rw [hok.out]; unfold nameCh; simp; omega)
              | (go_roundw
                 case rel => exact ⟨k+1, by omega, (fun j hj => by
                   rcases (by omega : j < k ∨ j = k) with hj | rfl
                   · exact ho.out j hj
                   · rw [hok.out]; unfold nameCh; simp; omega), rfl⟩
                 case measure => simp; omega)
        · obtain ⟨hr1, hr2⟩ := decode_high s k hlt (by omega)
          have hr3 := decode_le s k
          have hnx : ∀ ty, (Instr.next (.pointer (some ⟨w.heap.size, 0, none⟩)) true ty).run Tryz.prog (w.iter s k) = _ := fun ty => run_next_any w s k ty hlt
          generalize (Utf8.decode s k).1 = rn at *
          generalize (Utf8.decode s k).2 = wd at *
          have d1 : decide ((rn : Int) ≤ 122) = false := by simp; omega
          have d2 : decide ((rn : Int) ≤ 57) = false := by simp; omega
          have hr1 : (128 : Int) ≤ (rn : Int) := by omega
          go_wp2
          go_ret
          refine ⟨ret_bool ?_, Ext_alloc _ (Ext.refl w)⟩
          rw [isName_no hlt]
          rw [hok.out]; unfold nameCh; simp; omega
      · obtain rfl : k = s.size := by omega
        have HE := Lib.hid (isName_all ho.out)
        have hnx : ∀ ty, (Instr.next (.pointer (some ⟨w.heap.size, 0, none⟩)) true ty).run Tryz.prog (w.iter s s.size) = _ := fun ty => run_next_end w s s.size ty hlt
        go_wp2
        go_ret
        refine ⟨ret_bool ?_, Ext_alloc _ (Ext.refl w)⟩
        rw [HE.out]; simp; omega
  · have hno : Hid (isName s = false) := by show _ = _; unfold isName; rw [decide_eq_false hlen]; rfl
    rcases (by omega : (s.size : Int) < 1 ∨ ((1 : Int) ≤ s.size ∧ (12 : Int) < s.size)) with c | ⟨c, c'⟩
    all_goals
      go_enter Tryz.func133, Tryz.ntmps133
      go_wp2
      go_ret
      exact ⟨ret_bool hno.out.symm, Ext.refl w⟩
end Go.Proofs.YtjckcbfpejcpcaaGreatDoor

/- IsValidRecord of the program and of the reference. -/
namespace Go.Proofs.YtjckcbfpejcpcaaGreatDoor
open Go.RowKit Go.Sort

def validRec (k : Int) (nm : ByteArray) (ver : Int) (n : Nat) : Bool :=
  isName nm && (decide (0 ≤ ver) && decide (ver ≤ 7)) && decide (n ≤ 400) && (k == 1 || (k == 2 && ver == 0 && (n : Int) == 0))

end Go.Proofs.YtjckcbfpejcpcaaGreatDoor

/- Plain laws of the encoding of records: no program in sight. -/
namespace Go.Proofs.YtjckcbfpejcpcaaGreatDoor

/-- the two bytes of a number, the greater first -/
def be2 (n : Nat) : List UInt8 := [UInt8.ofNat (n / 256), UInt8.ofNat n]
/-- the encoding ahead of its last byte -/
def encBody (k : Int) (nm : ByteArray) (ver : Int) (l : List UInt8) : List UInt8 :=
  [UInt8.ofNat k.toNat, UInt8.ofNat nm.size] ++ nm.data.toList ++ [UInt8.ofNat ver.toNat] ++ be2 (pack l).length ++ pack l
def encRec (k : Int) (nm : ByteArray) (ver : Int) (l : List UInt8) : List UInt8 :=
  if validRec k nm ver l.length then encBody k nm ver l ++ [UInt8.ofNat (sumB (encBody k nm ver l))] else []
theorem validRec_facts {k : Int} {nm : ByteArray} {ver : Int} {n : Nat} (h : validRec k nm ver n = true) : 1 ≤ k ∧ k ≤ 2 ∧ 0 ≤ ver ∧ ver ≤ 7 ∧ n ≤ 400 ∧ nm.size ≤ 12 := by
  unfold validRec isName at h; simp at h; omega
theorem encBody_length (k : Int) (nm : ByteArray) (ver : Int) (l : List UInt8) : (encBody k nm ver l).length = nm.size + 5 + (pack l).length := by
  have : nm.data.toList.length = nm.size := by simp
  unfold encBody be2; simp only [List.length_append, List.length_cons, List.length_nil, this]; omega
theorem encRec_length {k : Int} {nm : ByteArray} {ver : Int} {l : List UInt8} (h : validRec k nm ver l.length = true) : (encRec k nm ver l).length = nm.size + 6 + (pack l).length := by
  unfold encRec; rw [if_pos h, List.length_append, encBody_length]; simp; omega
theorem encRec_no {k : Int} {nm : ByteArray} {ver : Int} {l : List UInt8} (h : validRec k nm ver l.length = false) : encRec k nm ver l = [] := by
  unfold encRec; rw [h]; rfl
theorem encRec_le (k : Int) (nm : ByteArray) (ver : Int) (l : List UInt8) : (encRec k nm ver l).length ≤ 818 := by
  cases h : validRec k nm ver l.length
  · rw [encRec_no h]; simp
  · rw [encRec_length h]
    have := validRec_facts h; have := pack_le l; omega

/-- what a record holds -/
structure DRec where
  k : Int
  nm : ByteArray
  ver : Int
  l : List UInt8
def DRec.zero : DRec := ⟨0, ⟨#[]⟩, 0, []⟩
def DRec.enc (r : DRec) : List UInt8 := encRec r.k r.nm r.ver r.l
def DRec.ok (r : DRec) : Bool := validRec r.k r.nm r.ver r.l.length

/-- the length of the name, the length of the packed bytes of a record that begins at an index -/
def nmAt (b : List UInt8) (a : Nat) : Nat := (b.getD (a+1) 0).toNat
def szAt (b : List UInt8) (a : Nat) : Nat := 256 * (b.getD (a + nmAt b a + 3) 0).toNat + (b.getD (a + nmAt b a + 4) 0).toNat
/-- the record's fields over its unpacked bytes -/
def recAt (b : List UInt8) (a : Nat) (d : List UInt8) : DRec :=
  ⟨(b.getD a 0).toNat, ⟨((b.drop (a+2)).take (nmAt b a)).toArray⟩, (b.getD (a + nmAt b a + 2) 0).toNat, d⟩
/-- the record that begins at an index -/
def decN (b : List UInt8) (a : Nat) : Option DRec :=
  if b.length < a + 2 ∨ b.length < a + nmAt b a + 6 ∨ b.length < a + nmAt b a + 6 + szAt b a then none
  else match unpack ((b.drop (a + nmAt b a + 5)).take (szAt b a)) with
    | none => none
    | some d => if (recAt b a d).ok && ((recAt b a d).enc == (b.drop a).take (nmAt b a + 6 + szAt b a)) then some (recAt b a d) else none
def dec (b : List UInt8) (a : Int) : Option DRec := if a < 0 then none else decN b a.toNat
/-- the index behind the record -/
def decEnd (b : List UInt8) (a : Int) : Int := if (dec b a).isSome then a + nmAt b a.toNat + 6 + szAt b a.toNat else a

theorem unpack_nil : unpack [] = some [] := rfl
/-- bytes that cannot be unpacked: no record with the same name and no data has this encoding -/
theorem dec_bad {b : List UInt8} {a : Nat} (h : a + nmAt b a + 6 + szAt b a ≤ b.length) (hu : unpack ((b.drop (a + nmAt b a + 5)).take (szAt b a)) = none) :
    ((recAt b a []).ok && ((recAt b a []).enc == (b.drop a).take (nmAt b a + 6 + szAt b a))) = false := by
  cases hv : (recAt b a []).ok
  · rfl
  · simp only [Bool.true_and, beq_eq_false_iff_ne]
    intro he
    have h1 := congrArg List.length he
    have h2 : (recAt b a []).enc.length = _ := encRec_length hv
    rw [h2] at h1
    have h3 : (recAt b a []).nm.size = nmAt b a := by
      show ((b.drop (a+2)).take (nmAt b a)).toArray.size = _
      simp; omega
    rw [h3] at h1
    have h4 : (pack (recAt b a []).l).length = 0 := rfl
    rw [h4, List.length_take, List.length_drop] at h1
    have h5 : szAt b a = 0 := by omega
    rw [h5, List.take_zero, unpack_nil] at hu
    cases hu
/-- the reference's reading: the unpacked bytes, or none -/
theorem decN_spec {b : List UInt8} {a : Nat} (h : a + nmAt b a + 6 + szAt b a ≤ b.length) :
    decN b a = if (recAt b a ((unpack ((b.drop (a + nmAt b a + 5)).take (szAt b a))).getD [])).ok && ((recAt b a ((unpack ((b.drop (a + nmAt b a + 5)).take (szAt b a))).getD [])).enc == (b.drop a).take (nmAt b a + 6 + szAt b a)) then some (recAt b a ((unpack ((b.drop (a + nmAt b a + 5)).take (szAt b a))).getD [])) else none := by
  unfold decN
  rw [if_neg (by omega)]
  cases hu : unpack ((b.drop (a + nmAt b a + 5)).take (szAt b a)) with
  | none => rw [Option.getD_none, dec_bad h hu]; rfl
  | some d => rfl
theorem decN_some {b : List UInt8} {a : Nat} {r : DRec} (h : decN b a = some r) : a + nmAt b a + 6 + szAt b a ≤ b.length ∧ r.ok = true ∧ r.enc = (b.drop a).take (nmAt b a + 6 + szAt b a) ∧ unpack ((b.drop (a + nmAt b a + 5)).take (szAt b a)) = some r.l ∧ r = recAt b a r.l := by
  unfold decN at h
  split at h
  · cases h
  · rename_i hc
    split at h
    · cases h
    · rename_i d hd
      split at h
      · rename_i hb
        injection h with h
        subst h
        rw [Bool.and_eq_true, beq_iff_eq] at hb
        exact ⟨by omega, hb.1, hb.2, hd, rfl⟩
      · cases h
end Go.Proofs.YtjckcbfpejcpcaaGreatDoor

/- PackBytes and PackedSize of the program and of the reference. -/
namespace Go.Proofs.YtjckcbfpejcpcaaGreatDoor
open Go.RowKit Go.Sort

theorem get_some {l : List UInt8} {i : Nat} (h : i < l.length) : l[i]? = some l[i] := List.getElem?_eq_getElem h
theorem vu8_ofNat {n : Nat} (h : n < 256) : vu8 (UInt8.ofNat n) = .int .u8 (n : Int) := by
  have : (UInt8.ofNat n).toNat = n := by simp; omega
  simp only [vu8, this]
theorem wrapByte {n : Nat} (h : n < 256) : Value.int .u8 (IntKind.u8.wrap (n : Int)) = vu8 (UInt8.ofNat n) := by
  have : (UInt8.ofNat n).toNat = n := by simp; omega
  simp only [vu8, this]
  congr 1
  unfold IntKind.wrap
  simp [IntKind.bits, IntKind.signed]
  omega

end Go.Proofs.YtjckcbfpejcpcaaGreatDoor

/- EncodeRecord of the program and of the reference; BigEndian of two bytes. -/
namespace Go.Proofs.YtjckcbfpejcpcaaGreatDoor
open Go.RowKit Go.Sort

section
variable {P : Program} {ops : Array Oper} {rest : List Oper} {o : Oper} {a : Act} {Q : Exit → Act → World → Prop}
/-- append(s, str...) onto bytes of the call's own -/
theorem wpList_appS (hgd : o.guard = none) (s x : Operand) (t u : TypeId) (ho : o.op = .call { callee := .builtin .append, args := #[s, x], argTypes := #[t, u] })
    {e : TypeId} (hE : Elem P t e 1 1 (.int .u8 0)) (hu : P.underlying u = some .string) (w0 w : World) (v : Value) (hs : a.eval s = v) (st : ByteArray) (hx : a.eval x = .string st)
    (l : List UInt8) (hown : OwnL vu8 e w0 w v l) (he : Ext w0 w) (hb : l.length + st.size ≤ 140737488355328)
    (h : ∀ v' w', OwnL vu8 e w0 w' v' (l ++ st.data.toList) → Ext w0 w' → wpList P ops Q rest (a.put o.dst v') w') :
    wpList P ops Q (o :: rest) a w := by
  obtain ⟨i0, hi0, hz0, hz1, hz2⟩ := info_parts hE.hi
  refine Lib.wpList_append_own_string w hgd s x t u ho w0.heap.size e i0 hE.ht hu hi0 hz0 hz1 hz2 v l.length (l.map vu8) hs hown st hx (by simp only [maxLen]; omega) hb he.size ?_
  intro v' w' h1 h2 _
  refine h v' w' ?_ (he.grown h2 (fun k hk => (hown.lt k hk).1))
  have hsz : st.data.toList.length = st.size := by simp
  unfold OwnL
  rw [List.length_append, hsz, List.map_append]
  exact h1
/-- []byte(s) -/
theorem wpList_bytesOf (hgd : o.guard = none) (x : Operand) (src dst : TypeId) (ho : o.op = .convert src dst x) {e : TypeId} (hs : P.underlying src = some .string) (hd : P.underlying dst = some (.slice e)) (he : P.underlying e = some (.int .u8))
    (w : World) (st : ByteArray) (hx : a.eval x = .string st) (hsz : st.size ≤ 140737488351232)
    (h : ∀ c w', Bs w' (some ⟨w.heap.size, 0, none⟩) st.data.toList c → Ext w w' → wpList P ops Q rest (a.put o.dst (.slice (some ⟨w.heap.size, 0, none⟩) st.size c)) w') :
    wpList P ops Q (o :: rest) a w := by
  refine wpList_plain hgd fun K hK => ?_
  unfold Oper.wp execOp
  simp only [ho, hx, Sem.run_bind, Lib.run_convert_string_bytes w src dst e st hs hd he, Result.andThen_ok, Sem.run_pure]
  have hE : Ext w (Lib.bytesWorld w e st) := by
    refine ⟨rfl, rfl, rfl, by rw [Lib.bytesWorld_size]; omega, fun k hk => Lib.bytesWorld_at_old w e st k hk⟩
  have hsz' : st.data.toList.length = st.size := by simp
  refine hK _ _ (h _ _ ⟨⟨by rw [hsz']; exact grownCap_ge w _ _ _, by omega, fun hp => ⟨_, _, rfl, by rw [Lib.bytesWorld_size]; omega, fun w' e' i hi => ?_⟩⟩, by omega⟩ hE)
  have h1 := Lib.bytesWorld_cell w e st i (by omega)
  rw [e'.cell (by rw [Lib.bytesWorld_size]; show w.heap.size < _; omega)]
  rw [Nat.zero_add, h1]
  have hi' : i < st.data.size := by simpa using hi
  simp only [vu8, List.getD, Array.getElem?_toList, Array.getElem?_eq_getElem hi', Option.getD_some, Array.getElem_toList]
end

/-- the cells of a slice, as the laws on append ask for them -/
theorem Rd.src {α : Type} {f : α → Value} {w w' : World} {A : Option Addr} {l : List α} {c : Nat} (h : Rd f w A l c) (e : Ext w w') :
    0 < l.length → ∃ ad, A = some ad ∧ ∀ j u, (l.map f)[j]? = some u → w'.cell? (ad.add j) = some u := by
  intro hp
  obtain ⟨b, off, h1, _, h3⟩ := h.base hp
  refine ⟨_, h1, fun j u hu => ?_⟩
  have := part_cells (h3 w' e) 0 l.length j u (by simpa using hu)
  simpa using this
/-- a row of the call's own since a later world is one since an elder one -/
theorem OwnL.lower {α : Type} {f : α → Value} {e : TypeId} {w0 w1 w : World} {v : Value} {l : List α} (h : OwnL f e w1 w v l) (k : Ext w0 w1) : OwnL f e w0 w v l := World.ownsRow.lower h k.size

set_option maxHeartbeats 400000 in
theorem l2Power2_c (w : World) : Gives Tryz.prog 108 #[.int .i64 2] w (.int .i64 65536) := by
  go_enter Tryz.func108, Tryz.ntmps108
  go_wp2
  go_ret
  exact ⟨rfl, Ext.refl _⟩
end Go.Proofs.YtjckcbfpejcpcaaGreatDoor
