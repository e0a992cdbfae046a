/- Printing values: l11Print of the reference. (Printed by gen/gx37.py.) -/
import Derived.Test.YtpmcofmdjckijaaGreatDoorZEx10
import Derived.Shelf.Strings.OnBuilder
import Derived.Shelf.LaysM
import Derived.Shelf.Strconv.Itoa3
import Derived.Test.YtpmcofmdjckijaaGreatDoorProg
import Derived.Lib.LaidTab
import Derived.Maps.OwnOps
import Derived.Maps.Views
import Derived.DeepKeys4
set_option linter.unusedVariables false
set_option linter.unusedSimpArgs false
set_option maxRecDepth 100000
set_option maxHeartbeats 16000000
namespace Go.Proofs.YtpmcofmdjckijaaGreatDoor
open Go.RowKit Go.Sort
theorem own_lit {α : Type} {f : α → Value} {e : TypeId} {w0 w : World} (he : Ext w0 w) (ys : List α) (cs : Array Value) (hcs : cs = (ys.map f).toArray) (m : Nat) (hm : m = ys.length) (hl : m ≤ 1000) :
 OwnL f e w0 (w.alloc (.cells cs e)) (.slice (some ⟨w.heap.size, 0, none⟩) m m) ys := by
 subst hcs; subst hm
 exact ⟨by simp, .inr ⟨w.heap.size, ys.length, _, rfl, he.size, heap_alloc_new w _, by omega, by simp only [maxLen]; omega, by simp, by simp [List.take_of_length_le]⟩⟩
theorem kid0E {ds : List DRule} (h : descOk ds = true) (i : Nat) (hi : i < ds.length) (hk : ds[i].kind = 4 ∨ ds[i].kind = 5 ∨ ds[i].kind = 7) :
 ∃ k0, ∃ h0 : k0 < ds.length, kd ds[i] 0 = k0 ∧ k0 < i ∧ 0 < ds[i].kids.length ∧ ds[k0].kind = 1 ∧ 1 ≤ ds[k0].size ∧ ds[k0].size ≤ 4 ∧ limD ds (ds[i].kids.getD 0 0) = 256 ^ ds[k0].size.toNat - 1 ∧ ds.getD (kd ds[i] 0) noRule = ds[k0] := by
 obtain ⟨g0, g1, gk, g2, g3, g4, g5⟩ := kid0 h i hi hk
 exact ⟨kd ds[i] 0, g0, rfl, g1, gk, g2, g3, g4, g5, by simp [g0]⟩
theorem escB_len (t : UInt8) : ∀ l, (escB t l).length ≤ 2 * l.length
 | [] => by simp [escB]
 | x :: l => by
  have e : escB t (x :: l) = (if x = t ∨ x = 92 then [92, x] else [x]) ++ escB t l := rfl
  have := escB_len t l
  rw [e, List.length_append, List.length_cons]
  split <;> simp <;> omega
theorem const_bytes {ds : List DRule} (h : descOk ds = true) (i : Nat) (hi : i < ds.length) (hk : ds[i].kind = 2) : ds[i].bytes.length ≤ 16 := by
 have hkk := ruleKind h i hi
 unfold kindOk at hkk
 rw [if_neg (by omega), if_pos hk] at hkk
 simp only [Bool.and_eq_true, between_iff] at hkk
 omega
theorem wrapV_len {ds : List DRule} (h : descOk ds = true) (i : Nat) (hi : i < ds.length) {n : Int} {b : List UInt8} {m : Nat} (ho : ownV ds ds[i] n b.length m = true) (inner : List UInt8) : (wrapV ds ds[i] n b m inner).length ≤ 2 * b.length + 16 + inner.length := by
 obtain ⟨_, _, _, _, _, k1, _⟩ := kids_len h i hi
 have K0 := kid0 h i hi
 have CB := const_bytes h i hi
 unfold wrapV
 by_cases c1 : ds[i].kind = 1
 ·rw [if_pos c1, encI_len]; have := k1 c1; omega
 rw [if_neg c1]
 by_cases c2 : ds[i].kind = 2
 ·rw [if_pos c2]; have := CB c2; omega
 rw [if_neg c2]
 by_cases c3 : ds[i].kind = 3
 ·rw [if_pos c3]; omega
 rw [if_neg c3]
 by_cases c4 : ds[i].kind = 4
 ·obtain ⟨g0, _, _, _, g3, g4, _⟩ := K0 (.inl c4)
  have e : ds.getD (kd ds[i] 0) noRule = ds[kd ds[i] 0] := by simp [g0]
  rw [if_pos c4, List.length_append, encI_len, e]; omega
 rw [if_neg c4]
 by_cases c5 : ds[i].kind = 5
 ·obtain ⟨g0, _, _, _, g3, g4, _⟩ := K0 (.inr (.inl c5))
  have e : ds.getD (kd ds[i] 0) noRule = ds[kd ds[i] 0] := by simp [g0]
  rw [if_pos c5, List.length_append, encI_len, e]; omega
 rw [if_neg c5]
 by_cases c6 : ds[i].kind = 6
 ·rw [if_pos c6]; omega
 rw [if_neg c6]
 by_cases c7 : ds[i].kind = 7
 ·obtain ⟨g0, _, _, _, g3, g4, _⟩ := K0 (.inr (.inr c7))
  have e : ds.getD (kd ds[i] 0) noRule = ds[kd ds[i] 0] := by simp [g0]
  rw [if_pos c7, List.length_append, encI_len, e]; omega
 rw [if_neg c7]
 by_cases c8 : ds[i].kind = 8
 ·rw [if_pos c8, List.length_cons]; omega
 rw [if_neg c8]
 by_cases c9 : ds[i].kind = 9
 ·rw [if_pos c9, List.length_append, List.length_singleton]; omega
 rw [if_neg c9, List.length_append, List.length_singleton]
 have := escB_len (ds[i].bytes.getD 0 0) b
 omega
theorem printV_len {ds : List DRule} (h : descOk ds = true) : ∀ (v : DVal) (i : Nat), validV ds i v = true → (printV ds i v).length ≤ 30 * (szV v + 1) := by
 intro v
 induction v using DVal.ind with
 | h v ih =>
  intro i hv
  have hi := validV_lt hv
  have hg : ds.getD i noRule = ds[i] := by simp [hi]
  have hs : ∀ (l : List DVal) (k : Nat), (∀ j (hj : j < l.length), validV ds (kidV ds[i] v.num (k + j)) l[j] = true ∧ l[j] ∈ v.items) → (printVs ds ds[i] v.num k l).length ≤ 30 * szVs l := by
   intro l
   induction l with
   | nil => intro k _; rw [printVs]; simp
   | cons x t iht =>
    intro k hm
    rw [printVs, List.length_append, szVs_cons]
    have h0 := hm 0 (by simp)
    simp only [List.getElem_cons_zero, Nat.add_zero] at h0
    have h1 := ih x h0.2 _ h0.1
    have h2 := iht (k + 1) (fun j hj => by
     have := hm (j + 1) (by simp; omega)
     rw [show k + (j + 1) = k + 1 + j by omega] at this
     simpa using this)
    omega
  have h1 := hs v.items 0 (fun j hj => ⟨by rw [Nat.zero_add]; exact validV_item hv j hj, List.getElem_mem hj⟩)
  rw [printV_eq, hg]
  have h2 := wrapV_len h i hi (validV_fits hv) (printVs ds ds[i] v.num 0 v.items)
  rw [szV_eq]
  omega
theorem printVs_snoc (ds : List DRule) (r : DRule) (n : Int) : ∀ (l : List DVal) (k : Nat) (x : DVal), printVs ds r n k (l ++ [x]) = printVs ds r n k l ++ printV ds (kidV r n (k + l.length)) x
 | [], k, x => by
  show printVs ds r n k [x] = _
  rw [printVs, printVs, printVs]; simp
 | a :: l, k, x => by
  show printVs ds r n k (a :: (l ++ [x])) = _
  rw [printVs, printVs, printVs_snoc ds r n l (k + 1) x, List.append_assoc, List.length_cons, show k + 1 + l.length = k + (l.length + 1) by omega]
theorem printVs_take (ds : List DRule) (r : DRule) (n : Int) (l : List DVal) (k : Nat) (h : k < l.length) : printVs ds r n 0 (l.take (k + 1)) = printVs ds r n 0 (l.take k) ++ printV ds (kidV r n k) l[k] := by
 rw [List.take_succ_eq_append_getElem h, printVs_snoc, List.length_take, Nat.min_eq_left (by omega), Nat.zero_add]
theorem szVs_part (l : List DVal) (k : Nat) : szVs (l.take k) ≤ szVs l := by
 rw [szVs_sum, szVs_sum, sum_split szV l k, List.length_take]; omega
theorem printVs_len {ds : List DRule} (h : descOk ds = true) {i : Nat} {v : DVal} (hv : validV ds i v = true) (k : Nat) (hk : k ≤ v.items.length) : (printVs ds (ds[i]'(validV_lt hv)) v.num 0 (v.items.take k)).length ≤ 30 * szV v := by
 induction k with
 | zero => rw [List.take_zero, printVs]; simp
 | succ k ih =>
  have key : ∀ k, k ≤ v.items.length → (printVs ds (ds[i]'(validV_lt hv)) v.num 0 (v.items.take k)).length ≤ 30 * szVs (v.items.take k) := by
   intro k
   induction k with
   | zero => intro _; rw [List.take_zero, printVs]; simp
   | succ k ih2 =>
    intro hk
    rw [printVs_take _ _ _ _ _ (by omega), List.length_append]
    have h1 := ih2 (by omega)
    have h2 := printV_len h _ _ (validV_item hv k (by omega))
    have h3 : szVs (v.items.take (k + 1)) = szVs (v.items.take k) + (1 + szV v.items[k]) := by
     rw [szVs_sum, szVs_sum, szVs_take _ _ (by omega), List.length_take, List.length_take]; omega
    omega
  have h1 := key (k + 1) hk
  have h2 := szVs_part v.items (k + 1)
  have h3 := szVs_le_szV v
  omega
theorem escB_take (t : UInt8) (l : List UInt8) (k : Nat) (h : k < l.length) : escB t (l.take (k + 1)) = escB t (l.take k) ++ if l[k] = t ∨ l[k] = 92 then [92, l[k]] else [l[k]] := by
 rw [List.take_succ_eq_append_getElem h]
 unfold escB
 rw [List.flatMap_append, List.flatMap_cons, List.flatMap_nil, List.append_nil]
theorem sEncI_s (r : DRule) (Rb : Option Addr) (rb : Nat) (Rn : Option Addr) (rn : Nat) (Rt : Option Addr) (rt : Nat) (Rk : Option Addr) (rk : Nat) (n : Nat) (hs : 1 ≤ r.size ∧ r.size ≤ 4) (hn : n < 256 ^ r.size.toNat) (w' : World) :
 Calls Tryz.prog 67 #[vrule r (.slice Rb r.bytes.length rb) (.slice Rn r.names.length rn) (.slice Rt r.tags.length rt) (.slice Rk r.kids.length rk), .int .i64 (n : Int)] w' fun e w'' => ∃ A4 n4 c4, e = .returned (.slice A4 n4 c4) ∧ OwnL vu8 5 w' w'' (.slice A4 n4 c4) (encI r n) ∧ n4 = (encI r n).length ∧ Ext w' w'' :=
 (sEncI_c r Rb rb Rn rn Rt rt Rk rk n hs hn w').mono fun e w'' ⟨v, h1, h2, h3⟩ => by
  obtain ⟨A4, c4, hv⟩ := Own.shape h2
  subst hv
  exact ⟨A4, _, c4, h1, h2, rfl, h3⟩
def sPrintOk (A : Option Addr) (ds : List DRule) (c : Nat) (v : DVal) : Prop := ∀ (i : Nat) (_ : i < ds.length) (Vb : Option Addr) (vb : Nat) (Vi : Option Addr) (vi : Nat) (w : World), RdD w A ds c → RdV w v Vb vb Vi vi → validV ds i v = true → szV v ≤ 1099511627776 →
 Calls Tryz.prog 50 #[vdesc (.slice A ds.length c), .int .i64 (i : Int), vval v (.slice Vb v.bytes.length vb) (.slice Vi v.items.length vi)] w fun e w' => ∃ A4 n4 c4, e = .returned (.slice A4 n4 c4) ∧ OwnL vu8 5 w w' (.slice A4 n4 c4) (printV ds i v) ∧ n4 = (printV ds i v).length ∧ Ext w w'
theorem sPrint_of (A : Option Addr) (ds : List DRule) (c : Nat) (hok : descOk ds = true) (v : DVal) (H : ∀ x ∈ v.items, sPrintOk A ds c x) : sPrintOk A ds c v := by
 intro i hi Vb vb Vi vi w hd hv hva hz
 have hl := hd.len
 have hbl := hv.b.len; have hil := hv.i.len
 have hz1 := bytes_le v; have hz2 := items_le v
 have HBS : Hid (Bs w Vb v.bytes vb) := hv.b.bs (bytes_le v) (by omega)
 have hown : ownV ds ds[i] v.num v.bytes.length v.items.length = true := validV_fits hva
 obtain ⟨bR, oR, Rb, rb, Rn, rn, Rt, rt, Rk, rk, hA, hbR, hS, hRR⟩ := hd.at i hi
 have hRR0 := hRR
 obtain ⟨r0, r1, r2, r3, r4, r5, r6, r7⟩ := hRR
 subst hA
 have hii : (i : Int) < (ds.length : Int) := by omega
 have hi0 : (0 : Int) ≤ (i : Int) := by omega
 have HH := Lib.hid H
 have HIT : Hid (∀ j, j < v.items.length → kidV ds[i] v.num j < i ∧ ItemAt ds[i] v.num j) := fun j hj => own_item hok i hi hown hj
 have HVA : Hid (∀ j (hj : j < v.items.length), validV ds (kidV ds[i] v.num j) v.items[j] = true) := fun j hj => validV_item hva j hj
 have HSZ : Hid (∀ x ∈ v.items, szV x ≤ 1099511627776) := fun x hx => by have := szV_item hx; omega
 have H7 : Hid (ds[i].kind = 7 → ds[i].kids.length = ds[i].tags.length + 1) := fun h => ((kids_len hok i hi).2.2.2.1 h).1
 have HKN := Lib.hid (kd_int hok i hi)
 have HLT : Hid (∀ k, k ≤ v.items.length → (printVs ds ds[i] v.num 0 (v.items.take k)).length ≤ 30 * szV v) := fun k hk => printVs_len hok hva k hk
 have HTK := Lib.hid (fun k hk => printVs_take ds ds[i] v.num v.items k hk)
 have HPL := Lib.hid (fun j (hj : j < v.items.length) => printV_len hok v.items[j] (kidV ds[i] v.num j) (validV_item hva j hj))
 have hgi : ds.getD i noRule = ds[i] := by simp [hi]
 have hP : printV ds i v = wrapV ds ds[i] v.num v.bytes v.items.length (printVs ds ds[i] v.num 0 v.items) := by rw [printV_eq, hgi]
 have hPL := printV_len hok v i hva
 rw [hP] at hPL ⊢
 obtain ⟨W0, HW0, B1, B2, B3, e0, hs0⟩ := boxes3' w #[.slice (some ⟨bR, oR, none⟩) ds.length c] #[.int .i64 v.num, .slice Vb v.bytes.length vb, .slice Vi v.items.length vi] #[.string ds[i].nm, .int .i64 ds[i].kind, .int .i64 ds[i].size, .bool ds[i].little, .slice Rb ds[i].bytes.length rb, .slice Rn ds[i].names.length rn, .slice Rt ds[i].tags.length rt, .slice Rk ds[i].kids.length rk] 26 29 51
 have d0 : ∀ w', Ext W0 w' → _ = some (Value.slice (some ⟨bR, oR, none⟩) ds.length c) := fun w' e => B1.at 0 w' e
 have v0 : ∀ w', Ext W0 w' → _ = some (Value.int .i64 v.num) := fun w' e => B2.at 0 w' e
 have v1 : ∀ w', Ext W0 w' → _ = some (Value.slice Vb v.bytes.length vb) := fun w' e => B2.at 1 w' e
 have v2 : ∀ w', Ext W0 w' → _ = some (Value.slice Vi v.items.length vi) := fun w' e => B2.at 2 w' e
 have q0 : ∀ w', Ext W0 w' → _ = some (Value.string ds[i].nm) := fun w' e => B3.at 0 w' e
 have q1 : ∀ w', Ext W0 w' → _ = some (Value.int .i64 ds[i].kind) := fun w' e => B3.at 1 w' e
 have q2 : ∀ w', Ext W0 w' → _ = some (Value.int .i64 ds[i].size) := fun w' e => B3.at 2 w' e
 have q3 : ∀ w', Ext W0 w' → _ = some (Value.bool ds[i].little) := fun w' e => B3.at 3 w' e
 have q4 : ∀ w', Ext W0 w' → _ = some (Value.slice Rb ds[i].bytes.length rb) := fun w' e => B3.at 4 w' e
 have q5 : ∀ w', Ext W0 w' → _ = some (Value.slice Rn ds[i].names.length rn) := fun w' e => B3.at 5 w' e
 have q6 : ∀ w', Ext W0 w' → _ = some (Value.slice Rt ds[i].tags.length rt) := fun w' e => B3.at 6 w' e
 have q7 : ∀ w', Ext W0 w' → _ = some (Value.slice Rk ds[i].kids.length rk) := fun w' e => B3.at 7 w' e
 have CI : Hid (∀ j, j < v.items.length → ∀ w', Ext w w' → Gives Tryz.prog 58 #[.agg #[.string ds[i].nm, .int .i64 ds[i].kind, .int .i64 ds[i].size, .bool ds[i].little, .slice Rb ds[i].bytes.length rb, .slice Rn ds[i].names.length rn, .slice Rt ds[i].tags.length rt, .slice Rk ds[i].kids.length rk], .int .i64 v.num, .int .i64 (j : Int)] w' (.int .i64 (kidV ds[i] v.num j : Nat))) := fun j hj w' e =>
  sItemV_c ds[i] Rb rb Rn rn Rt rt Rk rk v.num j w' (hS.ext e) (by omega) (HIT.out j hj).2 H7.out HKN.out
 have HS0 := Lib.hid hs0
 have hE0 := OwnL.empty (f := vu8) (e := 5) (Ext.refl W0)
 rw [hs0] at hE0
 have HE0 := Lib.hid hE0
 have x1 := Ext_alloc (.cells #[] 5) (Ext.refl W0)
 have HD := Lib.hid hd; have HV := Lib.hid hv; have HS := Lib.hid hS
 have HOW : Hid (ownV ds ds[i] v.num v.bytes.length v.items.length = true) := hown
 have HRR := Lib.hid hRR0
 clear B1 B2 B3 hs0 hE0 hd hv hS H hva hown hRR0 hgi hP
 have HPL2 := Lib.hid hPL
 clear hPL
 obtain ⟨PP, hPP⟩ : ∃ PP, wrapV ds ds[i] v.num v.bytes v.items.length (printVs ds ds[i] v.num 0 v.items) = PP := ⟨_, rfl⟩
 rw [hPP] at HPL2 ⊢
 have HPP := Lib.hid hPP; clear hPP
 unfold vdesc vval
 go_enter Tryz.func50, Tryz.ntmps50
 go_wp2_with fail
 rw [← HW0.out]
 go_loopw [8, 9] (fun u ix wr => ∃ (k : Nat) (Au : Option Addr) (cu : Nat) (l : List UInt8), k ≤ v.items.length ∧ ix = .int .i64 k ∧ u = .slice Au l.length cu ∧ Hid (l = printVs ds ds[i] v.num 0 (v.items.take k)) ∧ Hid (OwnL vu8 5 W0 wr (.slice Au l.length cu) l) ∧ Ext W0 wr) (fun _ ix _ => v.items.length - (intOf ix).toNat)
 case atStart => exact ⟨0, _, _, [], by omega, rfl, rfl, by simp [Hid, printVs], HE0, x1⟩
 case round =>
  clear HE0 x1
  obtain ⟨k, Au, cu, l, hk, rfl, rfl, hl0, ho, he⟩ := hrel
  by_cases hlt : k < v.items.length
  ·obtain ⟨bb, ofs, A1, c1, D1, d1, hIa, hbb, hs1, hr1⟩ := HV.out.i.at k hlt
   subst hIa
   have CI1 := Lib.hid (CI.out k hlt)
   have CP1 : Hid (∀ w', Ext w w' → Calls Tryz.prog 50 #[.agg #[.slice (some ⟨bR, oR, none⟩) ds.length c], .int .i64 ((kidV ds[i] v.num k : Nat) : Int), .agg #[.int .i64 v.items[k].num, .slice A1 v.items[k].bytes.length c1, .slice D1 v.items[k].items.length d1]] w' fun e w'' => ∃ A4 n4 c4, e = .returned (.slice A4 n4 c4) ∧ OwnL vu8 5 w' w'' (.slice A4 n4 c4) (printV ds (kidV ds[i] v.num k) v.items[k]) ∧ n4 = (printV ds (kidV ds[i] v.num k) v.items[k]).length ∧ Ext w' w'') := fun w' e =>
    HH.out _ (List.getElem_mem hlt) (kidV ds[i] v.num k) (by have := (HIT.out k hlt).1; omega) A1 c1 D1 d1 w' (HD.out.ext e) (hs1.ext e) (HVA.out k hlt) (HSZ.out _ (List.getElem_mem hlt))
   have HTK1 := Lib.hid (HTK.out k hlt)
   have hlk := HLT.out k hk
   have hpk := HPL.out k hlt
   have hszk := HSZ.out _ (List.getElem_mem hlt)
   obtain ⟨i0, i1, i2⟩ := hr1
   replace i0 := fun w' (e : Ext W0 w') => i0 w' (e0.trans e)
   replace i1 := fun w' (e : Ext W0 w') => i1 w' (e0.trans e)
   replace i2 := fun w' (e : Ext W0 w') => i2 w' (e0.trans e)
   have hll : l.length ≤ 30 * szV v := by rw [hl0.out]; exact hlk
   have hkk : (0 : Int) ≤ (k : Int) := by omega
   have hkl1 : (k : Int) < (v.items.length : Int) := by omega
   generalize printV ds (kidV ds[i] v.num k) v.items[k] = pk at *
   generalize kidV ds[i] v.num k = kk at *
   generalize v.items[k] = x at *
   have HBD : Hid ((l.length + pk.length) * 1 ≤ 140737488355328) := by show _ ≤ _; omega
   have HBL : Hid ((l ++ pk).length ≤ 140737488351232) := by show _ ≤ _; rw [List.length_append]; omega
   have SY : Hid (∀ w', Ext W0 w' → Ext W0 w' ∧ True) := fun _ h1 => ⟨h1, trivial⟩
   have hed := Ext_drew he
   have HED := Lib.hid hed
   clear hlk hpk hszk hbb hs1
   go_wp2_with fail
   go_region_held3 (fun w' => Ext W0 w' ∧ True) (first | exact SY.out _ hed | exact SY.out _ (by assumption)) (first
    | (go_at_call 58; have hq := ‹Ext W0 _ ∧ True›; refine (CI1.out _ (e0.trans hq.1)).mono ?_; rintro _ w4 ⟨rfl, he4⟩; have hE4 := hq.1.trans he4; have HO4 := Lib.hid (OwnL.ext (OwnL.ext ho.out (Ext_drew (Ext.refl wr))) he4))
    | (go_at_call 50; have hq := ‹Ext W0 _ ∧ True›; refine (CP1.out _ (e0.trans hq.1)).mono ?_; rintro _ w5 ⟨A4, n4, c4, rfl, ho5, hn4, he5⟩; subst hn4; have hE5 := hq.1.trans he5; have HO5 := Lib.hid (OwnL.ext HO4.out he5); obtain ⟨A4', c4', hv4', hr5⟩ := OwnL.rd ho5 (by have := HBL.out; rw [List.length_append] at this; omega); injection hv4' with z1 z2 z3; subst z1; subst z3; have HR5 := Lib.hid hr5; clear ho5)
    | (refine step_appH rfl (.tmp 24) (.tmp 36) _ rfl E_u8 (by omega) W0 _ vu8 (fun _ => rfl) _ rfl _ _ _ rfl l pk HO5.out hE5 rfl (Rd.src HR5.out (Ext.refl _)) HBD.out ?_; intro v7 w7 ho7 he7 hv7 hg7; obtain ⟨A7, c7, hv7', _⟩ := OwnL.rd ho7 HBL.out; subst hv7'))
   all_goals
    have N7 : Hid (l ++ pk = printVs ds ds[i] v.num 0 (v.items.take (k + 1))) := by show _ = _; rw [HTK1.out, ← hl0.out]
    have L7 : (l ++ pk).length = l.length + pk.length := List.length_append
    have HO7 := Lib.hid ho7
    clear ho7 hg7 hv7 HBL HBD
    go_wp2
    go_roundw
    case rel => exact ⟨k + 1, A7, c7, l ++ pk, by omega, by go_num, by rw [L7], N7, HO7, he7⟩
    case measure => simp [intOf]; omega
  ·obtain rfl : k = v.items.length := by omega
   have hl1 := hl0.out
   rw [List.take_length] at hl1
   have hpp := HPP.out
   rw [← hl1] at hpp
   have hll : l.length ≤ 30 * szV v := by rw [hl0.out]; exact HLT.out _ (Nat.le_refl _)
   have HL0 : Hid (v.items.length = 0 → l = []) := fun h => by rw [hl1, List.eq_nil_of_length_eq_zero h, printVs]
   have hown := HOW.out
   have hkd := (ruleFacts hok i hi).kind
   have K0 := kid0E hok i hi
   obtain ⟨_, _, _, _, _, k1, k3⟩ := kids_len hok i hi
   have TB := term_byte hok i hi
   have CB2 := const_bytes hok i hi
   have hsw := e0.size
   clear hl0 hl1 HPP HTK HLT HPL HIT HVA HH HSZ H7 HKN CI HOW HRR
   rcases (by omega : ds[i].kind = 1 ∨ ds[i].kind = 2 ∨ ds[i].kind = 3 ∨ ds[i].kind = 4 ∨ ds[i].kind = 5 ∨ ds[i].kind = 6 ∨ ds[i].kind = 7 ∨ ds[i].kind = 8 ∨ ds[i].kind = 9 ∨ ds[i].kind = 10) with hk | hk | hk | hk | hk | hk | hk | hk | hk | hk
   ·unfold wrapV at hpp
    rw [if_pos hk] at hpp
    unfold ownV at hown
    rw [if_pos hk] at hown
    simp only [Bool.and_eq_true, beq_iff_eq, decide_eq_true_eq] at hown
    subst hpp
    have hs14 := k1 hk
    have hlim : limR ds[i] = 256 ^ ds[i].size.toNat - 1 := by unfold limR; rw [if_pos ⟨hk, hs14⟩]
    have hnn : v.num.toNat < 256 ^ ds[i].size.toNat := by
     have h1 := hown.1.1.2; rw [hlim] at h1
     have := pow256 ds[i].size.toNat; omega
    have hn0 : ((v.num.toNat : Nat) : Int) = v.num := Int.toNat_of_nonneg hown.1.1.1
    have CE : Hid (∀ w', Calls Tryz.prog 67 #[.agg #[.string ds[i].nm, .int .i64 ds[i].kind, .int .i64 ds[i].size, .bool ds[i].little, .slice Rb ds[i].bytes.length rb, .slice Rn ds[i].names.length rn, .slice Rt ds[i].tags.length rt, .slice Rk ds[i].kids.length rk], .int .i64 v.num] w' fun e w'' => ∃ A4 n4 c4, e = .returned (.slice A4 n4 c4) ∧ OwnL vu8 5 w' w'' (.slice A4 n4 c4) (encI ds[i] v.num.toNat) ∧ n4 = (encI ds[i] v.num.toNat).length ∧ Ext w' w'') := fun w' => by
     have h := sEncI_s ds[i] Rb rb Rn rn Rt rt Rk rk v.num.toNat hs14 hnn w'
     rwa [hn0] at h
    have t1 : (ds[i].kind == 1) = true := by rw [hk]; rfl
    have t2 : (ds[i].kind == 2) = false := by rw [hk]; rfl
    have t4 : (ds[i].kind == 4) = false := by rw [hk]; rfl
    have t5 : (ds[i].kind == 5) = false := by rw [hk]; rfl
    have t7 : (ds[i].kind == 7) = false := by rw [hk]; rfl
    have t8 : (ds[i].kind == 8) = false := by rw [hk]; rfl
    have t9 : (ds[i].kind == 9) = false := by rw [hk]; rfl
    have t10 : (ds[i].kind == 10) = false := by rw [hk]; rfl
    have t3 : (ds[i].kind == 3) = false := by rw [hk]; rfl
    clear hown k1 k3 K0 TB CB2 hkd hs14 hlim hnn hk
    go_wp2_with fail
    refine (CE.out _).mono ?_; rintro _ w5 ⟨A4, n4, c4, rfl, ho5, hn5, he5⟩
    subst hn5
    have HO5 := Lib.hid ho5; clear ho5
    go_wp2
    go_ret
    exact ⟨_, _, _, rfl, HO5.out.down (by have := he.size; omega), rfl, e0.trans (he.trans he5)⟩
   ·unfold wrapV at hpp
    rw [if_neg (by omega), if_pos hk] at hpp
    unfold ownV at hown
    rw [if_neg (by omega), if_pos hk] at hown
    simp only [Bool.and_eq_true, beq_iff_eq, decide_eq_true_eq] at hown
    subst hpp
    have HY := Lib.hid (HS.out.b.bs (n := 16) (CB2 hk) (by omega))
    have HYL : Hid (ds[i].bytes.length ≤ 140737488351232) := by show _ ≤ _; have := CB2 hk; omega
    have HE2 := Lib.hid (OwnL.empty (f := vu8) (e := 5) (Ext.refl wr))
    have HB2' : Hid ((([] : List UInt8).length + ds[i].bytes.length) * 1 ≤ 140737488355328) := by show _ ≤ _; have := HYL.out; simp; omega
    have xr := Ext_alloc (.cells #[] 5) (Ext.refl wr)
    have t1 : (ds[i].kind == 1) = false := by rw [hk]; rfl
    have t2 : (ds[i].kind == 2) = true := by rw [hk]; rfl
    have t4 : (ds[i].kind == 4) = false := by rw [hk]; rfl
    have t5 : (ds[i].kind == 5) = false := by rw [hk]; rfl
    have t7 : (ds[i].kind == 7) = false := by rw [hk]; rfl
    have t8 : (ds[i].kind == 8) = false := by rw [hk]; rfl
    have t9 : (ds[i].kind == 9) = false := by rw [hk]; rfl
    have t10 : (ds[i].kind == 10) = false := by rw [hk]; rfl
    have t3 : (ds[i].kind == 3) = false := by rw [hk]; rfl
    clear hown k1 k3 K0 TB CB2 hkd hk
    go_wp2_with (first
     | (at_builtin; refine wpList_appL rfl (.tmp 48) (.tmp 50) _ rfl E_u8 (by omega) wr _ vu8 (fun _ => rfl) _ rfl _ _ _ rfl [] ds[i].bytes HE2.out xr rfl (Rd.src HY.out ((e0.trans he).trans xr)) HB2'.out ?_; intro v4 w4 ho4 he4 hv4 hg4; rw [List.nil_append] at ho4; obtain ⟨A4, c4, hvv, _⟩ := OwnL.rd ho4 HYL.out; subst hvv; have HO4 := Lib.hid ho4; clear ho4 hv4 hg4))
    go_ret
    exact ⟨_, _, _, rfl, HO4.out.down (by have := he.size; omega), rfl, e0.trans (he.trans he4)⟩
   ·unfold wrapV at hpp
    rw [if_neg (by omega), if_neg (by omega), if_pos hk] at hpp
    unfold ownV at hown
    rw [if_neg (by omega), if_neg (by omega), if_pos hk] at hown
    simp only [Bool.and_eq_true, beq_iff_eq, decide_eq_true_eq] at hown
    subst hpp
    have HY := Lib.hid (HBS.out)
    have HYL : Hid (v.bytes.length ≤ 140737488351232) := by show _ ≤ _; omega
    have HE2 := Lib.hid (OwnL.empty (f := vu8) (e := 5) (Ext.refl wr))
    have HB2' : Hid ((([] : List UInt8).length + v.bytes.length) * 1 ≤ 140737488355328) := by show _ ≤ _; have := HYL.out; simp; omega
    have xr := Ext_alloc (.cells #[] 5) (Ext.refl wr)
    have t1 : (ds[i].kind == 1) = false := by rw [hk]; rfl
    have t2 : (ds[i].kind == 2) = false := by rw [hk]; rfl
    have t4 : (ds[i].kind == 4) = false := by rw [hk]; rfl
    have t5 : (ds[i].kind == 5) = false := by rw [hk]; rfl
    have t7 : (ds[i].kind == 7) = false := by rw [hk]; rfl
    have t8 : (ds[i].kind == 8) = false := by rw [hk]; rfl
    have t9 : (ds[i].kind == 9) = false := by rw [hk]; rfl
    have t10 : (ds[i].kind == 10) = false := by rw [hk]; rfl
    have t3 : (ds[i].kind == 3) = true := by rw [hk]; rfl
    clear hown k1 k3 K0 TB CB2 hkd hk
    go_wp2_with (first
     | (at_builtin; refine wpList_appL rfl (.tmp 164) (.tmp 166) _ rfl E_u8 (by omega) wr _ vu8 (fun _ => rfl) _ rfl _ _ _ rfl [] v.bytes HE2.out xr rfl (Rd.src HY.out ((e0.trans he).trans xr)) HB2'.out ?_; intro v4 w4 ho4 he4 hv4 hg4; rw [List.nil_append] at ho4; obtain ⟨A4, c4, hvv, _⟩ := OwnL.rd ho4 HYL.out; subst hvv; have HO4 := Lib.hid ho4; clear ho4 hv4 hg4))
    go_ret
    exact ⟨_, _, _, rfl, HO4.out.down (by have := he.size; omega), rfl, e0.trans (he.trans he4)⟩
   ·unfold wrapV at hpp
    rw [if_neg (by omega), if_neg (by omega), if_neg (by omega), if_pos hk] at hpp
    unfold ownV at hown
    rw [if_neg (by omega), if_neg (by omega), if_neg (by omega), if_pos hk] at hown
    simp only [Bool.and_eq_true, beq_iff_eq, decide_eq_true_eq] at hown
    obtain ⟨k0, g0, hk0, g1, gk, g2, g3, g4, g5, hx0⟩ := K0 (.inl hk)
    rw [hx0] at hpp
    have hkn := kd_int hok i hi 0 gk
    obtain ⟨bk, okk, hRk, _, hck⟩ := HS.out.k.at 0 gk
    rw [hkn, hk0] at hck
    subst hRk
    simp only [Nat.add_zero, vint] at hck
    obtain ⟨bR2, oR2, Sb, sb, Sn, sn, St, st, Sk, sk, hA2, _, hS2, hR2⟩ := HD.out.at k0 g0
    injection hA2 with hA2; injection hA2 with z1 z2 _; subst z1; subst z2
    obtain ⟨m0, m1, m2, m3, m4, m5, m6, m7⟩ := hR2
    have hpow := pow256 ds[k0].size.toNat
    have hnn : v.bytes.length < 256 ^ ds[k0].size.toNat := by have h1 := hown.1.2; rw [g5] at h1; omega
    have CE : Hid (∀ w', Calls Tryz.prog 67 #[.agg #[.string ds[k0].nm, .int .i64 ds[k0].kind, .int .i64 ds[k0].size, .bool ds[k0].little, .slice Sb ds[k0].bytes.length sb, .slice Sn ds[k0].names.length sn, .slice St ds[k0].tags.length st, .slice Sk ds[k0].kids.length sk], .int .i64 (v.bytes.length : Int)] w' fun e w'' => ∃ A4 n4 c4, e = .returned (.slice A4 n4 c4) ∧ OwnL vu8 5 w' w'' (.slice A4 n4 c4) (encI ds[k0] v.bytes.length) ∧ n4 = (encI ds[k0] v.bytes.length).length ∧ Ext w' w'') := fun w' => by
     have h := sEncI_s ds[k0] Sb sb Sn sn St st Sk sk v.bytes.length ⟨g3, g4⟩ hnn w'
     first | rwa [hn0] at h | exact h
    have HEL : Hid ((encI ds[k0] v.bytes.length).length ≤ 4) := by show _ ≤ _; rw [encI_len]; omega
    replace m0 := fun w' (e : Ext W0 w') => m0 w' (e0.trans e)
    replace m1 := fun w' (e : Ext W0 w') => m1 w' (e0.trans e)
    replace m2 := fun w' (e : Ext W0 w') => m2 w' (e0.trans e)
    replace m3 := fun w' (e : Ext W0 w') => m3 w' (e0.trans e)
    replace m4 := fun w' (e : Ext W0 w') => m4 w' (e0.trans e)
    replace m5 := fun w' (e : Ext W0 w') => m5 w' (e0.trans e)
    replace m6 := fun w' (e : Ext W0 w') => m6 w' (e0.trans e)
    replace m7 := fun w' (e : Ext W0 w') => m7 w' (e0.trans e)
    replace hck := fun w' (e : Ext W0 w') => hck w' (e0.trans e)
    have hk0i : (k0 : Int) < (ds.length : Int) := by omega
    have hk00 : (0 : Int) ≤ (k0 : Int) := by omega
    have hkl : (0 : Int) < (ds[i].kids.length : Int) := by omega
    have t1 : (ds[i].kind == 1) = false := by rw [hk]; rfl
    have t2 : (ds[i].kind == 2) = false := by rw [hk]; rfl
    have t4 : (ds[i].kind == 4) = true := by rw [hk]; rfl
    have t5 : (ds[i].kind == 5) = false := by rw [hk]; rfl
    have t7 : (ds[i].kind == 7) = false := by rw [hk]; rfl
    have t8 : (ds[i].kind == 8) = false := by rw [hk]; rfl
    have t9 : (ds[i].kind == 9) = false := by rw [hk]; rfl
    have t10 : (ds[i].kind == 10) = false := by rw [hk]; rfl
    have t3 : (ds[i].kind == 3) = false := by rw [hk]; rfl
    have SY : Hid (∀ w', Ext W0 w' → Ext W0 w' ∧ True) := fun _ h1 => ⟨h1, trivial⟩
    have hed := Ext_drew he
    have HXR : Ext wr wr.drew := Ext_drew (Ext.refl wr)
    generalize hEE : encI ds[k0] v.bytes.length = EE at *
    clear hEE
    have HPQ := Lib.hid hpp
    clear hpp
    have HBD : Hid ((EE.length + v.bytes.length) * 1 ≤ 140737488355328) := by show _ ≤ _; have := HEL.out; omega
    have HBL : Hid ((EE ++ v.bytes).length ≤ 140737488351232) := by show _ ≤ _; have := HEL.out; rw [List.length_append]; omega
    generalize ds[k0] = rk0 at *
    clear hown k1 k3 K0 TB CB2 hkd hk hx0 hk0 hkn g1 g2 g3 g4 g5 hnn
    go_wp2_with fail
    go_region_held3 (fun w' => Ext W0 w' ∧ True) (first | exact SY.out _ hed | exact SY.out _ (by assumption)) (first
     | (go_at_call 67; have hq := ‹Ext W0 _ ∧ True›; refine (CE.out _).mono ?_; rintro _ w5 ⟨A4, n4, c4, rfl, ho5, hn4, he5⟩; subst hn4; have hE5 := hq.1.trans he5; have HO5 := Lib.hid ho5; have hx5 := he5; clear ho5)
     | (refine step_appH rfl (.tmp 65) (.tmp 67) _ rfl E_u8 (by omega) wr.drew _ vu8 (fun _ => rfl) _ rfl _ _ _ rfl EE v.bytes HO5.out hx5 rfl (Rd.src HBS.out (e0.trans hE5)) HBD.out ?_; intro v7 w7 ho7 he7 hv7 hg7; have hE7 : Ext W0 w7 := hed.trans he7; obtain ⟨A7, c7, hv7', _⟩ := OwnL.rd ho7 HBL.out; subst hv7'))
    all_goals
     have HO7 := Lib.hid ho7
     have L7 : (EE ++ v.bytes).length = EE.length + v.bytes.length := List.length_append
     clear ho7 hg7 hv7
     have HF : Hid (OwnL vu8 5 w w7 (.slice A7 (EE.length + v.bytes.length) c7) PP ∧ EE.length + v.bytes.length = PP.length) := by
      show _ ∧ _
      rw [← HPQ.out, ← L7]
      exact ⟨HO7.out.down (by have := he.size; show w.heap.size ≤ wr.heap.size; omega), rfl⟩
     clear HO7 L7
     go_wp2
     go_ret
     exact ⟨_, _, _, rfl, HF.out.1, HF.out.2, e0.trans hE7⟩
   ·obtain ⟨Au', cu', hui, hri⟩ := OwnL.rd ho.out (by omega : l.length ≤ 140737488351232)
    injection hui with y1 y2 y3
    subst y1; subst y3
    have HRI := Lib.hid hri
    clear hri
    unfold wrapV at hpp
    rw [if_neg (by omega), if_neg (by omega), if_neg (by omega), if_neg (by omega), if_pos hk] at hpp
    unfold ownV at hown
    rw [if_neg (by omega), if_neg (by omega), if_neg (by omega), if_neg (by omega), if_pos hk] at hown
    simp only [Bool.and_eq_true, beq_iff_eq, decide_eq_true_eq] at hown
    obtain ⟨k0, g0, hk0, g1, gk, g2, g3, g4, g5, hx0⟩ := K0 (.inr (.inl hk))
    rw [hx0] at hpp
    have hkn := kd_int hok i hi 0 gk
    obtain ⟨bk, okk, hRk, _, hck⟩ := HS.out.k.at 0 gk
    rw [hkn, hk0] at hck
    subst hRk
    simp only [Nat.add_zero, vint] at hck
    obtain ⟨bR2, oR2, Sb, sb, Sn, sn, St, st, Sk, sk, hA2, _, hS2, hR2⟩ := HD.out.at k0 g0
    injection hA2 with hA2; injection hA2 with z1 z2 _; subst z1; subst z2
    obtain ⟨m0, m1, m2, m3, m4, m5, m6, m7⟩ := hR2
    have hpow := pow256 ds[k0].size.toNat
    have hnn : v.items.length < 256 ^ ds[k0].size.toNat := by have h1 := hown.2; rw [g5] at h1; omega
    have CE : Hid (∀ w', Calls Tryz.prog 67 #[.agg #[.string ds[k0].nm, .int .i64 ds[k0].kind, .int .i64 ds[k0].size, .bool ds[k0].little, .slice Sb ds[k0].bytes.length sb, .slice Sn ds[k0].names.length sn, .slice St ds[k0].tags.length st, .slice Sk ds[k0].kids.length sk], .int .i64 (v.items.length : Int)] w' fun e w'' => ∃ A4 n4 c4, e = .returned (.slice A4 n4 c4) ∧ OwnL vu8 5 w' w'' (.slice A4 n4 c4) (encI ds[k0] v.items.length) ∧ n4 = (encI ds[k0] v.items.length).length ∧ Ext w' w'') := fun w' => by
     have h := sEncI_s ds[k0] Sb sb Sn sn St st Sk sk v.items.length ⟨g3, g4⟩ hnn w'
     first | rwa [hn0] at h | exact h
    have HEL : Hid ((encI ds[k0] v.items.length).length ≤ 4) := by show _ ≤ _; rw [encI_len]; omega
    replace m0 := fun w' (e : Ext W0 w') => m0 w' (e0.trans e)
    replace m1 := fun w' (e : Ext W0 w') => m1 w' (e0.trans e)
    replace m2 := fun w' (e : Ext W0 w') => m2 w' (e0.trans e)
    replace m3 := fun w' (e : Ext W0 w') => m3 w' (e0.trans e)
    replace m4 := fun w' (e : Ext W0 w') => m4 w' (e0.trans e)
    replace m5 := fun w' (e : Ext W0 w') => m5 w' (e0.trans e)
    replace m6 := fun w' (e : Ext W0 w') => m6 w' (e0.trans e)
    replace m7 := fun w' (e : Ext W0 w') => m7 w' (e0.trans e)
    replace hck := fun w' (e : Ext W0 w') => hck w' (e0.trans e)
    have hk0i : (k0 : Int) < (ds.length : Int) := by omega
    have hk00 : (0 : Int) ≤ (k0 : Int) := by omega
    have hkl : (0 : Int) < (ds[i].kids.length : Int) := by omega
    have t1 : (ds[i].kind == 1) = false := by rw [hk]; rfl
    have t2 : (ds[i].kind == 2) = false := by rw [hk]; rfl
    have t4 : (ds[i].kind == 4) = false := by rw [hk]; rfl
    have t5 : (ds[i].kind == 5) = true := by rw [hk]; rfl
    have t7 : (ds[i].kind == 7) = false := by rw [hk]; rfl
    have t8 : (ds[i].kind == 8) = false := by rw [hk]; rfl
    have t9 : (ds[i].kind == 9) = false := by rw [hk]; rfl
    have t10 : (ds[i].kind == 10) = false := by rw [hk]; rfl
    have t3 : (ds[i].kind == 3) = false := by rw [hk]; rfl
    have SY : Hid (∀ w', Ext W0 w' → Ext W0 w' ∧ True) := fun _ h1 => ⟨h1, trivial⟩
    have hed := Ext_drew he
    have HXR : Ext wr wr.drew := Ext_drew (Ext.refl wr)
    generalize hEE : encI ds[k0] v.items.length = EE at *
    clear hEE
    have HPQ := Lib.hid hpp
    clear hpp
    have HBD : Hid ((EE.length + l.length) * 1 ≤ 140737488355328) := by show _ ≤ _; have := HEL.out; omega
    have HBL : Hid ((EE ++ l).length ≤ 140737488351232) := by show _ ≤ _; have := HEL.out; rw [List.length_append]; omega
    generalize ds[k0] = rk0 at *
    clear hown k1 k3 K0 TB CB2 hkd hk hx0 hk0 hkn g1 g2 g3 g4 g5 hnn
    go_wp2_with fail
    go_region_held3 (fun w' => Ext W0 w' ∧ True) (first | exact SY.out _ hed | exact SY.out _ (by assumption)) (first
     | (go_at_call 67; have hq := ‹Ext W0 _ ∧ True›; refine (CE.out _).mono ?_; rintro _ w5 ⟨A4, n4, c4, rfl, ho5, hn4, he5⟩; subst hn4; have hE5 := hq.1.trans he5; have HO5 := Lib.hid ho5; have hx5 := he5; clear ho5)
     | (refine step_appH rfl (.tmp 82) (.tmp 83) _ rfl E_u8 (by omega) wr.drew _ vu8 (fun _ => rfl) _ rfl _ _ _ rfl EE l HO5.out hx5 rfl (Rd.src HRI.out (HXR.trans hx5)) HBD.out ?_; intro v7 w7 ho7 he7 hv7 hg7; have hE7 : Ext W0 w7 := hed.trans he7; obtain ⟨A7, c7, hv7', _⟩ := OwnL.rd ho7 HBL.out; subst hv7'))
    all_goals
     have HO7 := Lib.hid ho7
     have L7 : (EE ++ l).length = EE.length + l.length := List.length_append
     clear ho7 hg7 hv7
     have HF : Hid (OwnL vu8 5 w w7 (.slice A7 (EE.length + l.length) c7) PP ∧ EE.length + l.length = PP.length) := by
      show _ ∧ _
      rw [← HPQ.out, ← L7]
      exact ⟨HO7.out.down (by have := he.size; show w.heap.size ≤ wr.heap.size; omega), rfl⟩
     clear HO7 L7
     go_wp2
     go_ret
     exact ⟨_, _, _, rfl, HF.out.1, HF.out.2, e0.trans hE7⟩
   ·unfold wrapV at hpp
    rw [if_neg (by omega), if_neg (by omega), if_neg (by omega), if_neg (by omega), if_neg (by omega), if_pos hk] at hpp
    unfold ownV at hown
    rw [if_neg (by omega), if_neg (by omega), if_neg (by omega), if_neg (by omega), if_neg (by omega), if_pos hk] at hown
    simp only [Bool.and_eq_true, beq_iff_eq, decide_eq_true_eq] at hown
    subst hpp
    have t1 : (ds[i].kind == 1) = false := by rw [hk]; rfl
    have t2 : (ds[i].kind == 2) = false := by rw [hk]; rfl
    have t4 : (ds[i].kind == 4) = false := by rw [hk]; rfl
    have t5 : (ds[i].kind == 5) = false := by rw [hk]; rfl
    have t7 : (ds[i].kind == 7) = false := by rw [hk]; rfl
    have t8 : (ds[i].kind == 8) = false := by rw [hk]; rfl
    have t9 : (ds[i].kind == 9) = false := by rw [hk]; rfl
    have t10 : (ds[i].kind == 10) = false := by rw [hk]; rfl
    have t3 : (ds[i].kind == 3) = false := by rw [hk]; rfl
    clear hown k1 k3 K0 TB CB2 hkd hk
    go_wp2
    go_ret
    exact ⟨_, _, _, rfl, ho.out.down (by omega), rfl, e0.trans he⟩
   ·obtain ⟨Au', cu', hui, hri⟩ := OwnL.rd ho.out (by omega : l.length ≤ 140737488351232)
    injection hui with y1 y2 y3
    subst y1; subst y3
    have HRI := Lib.hid hri
    clear hri
    unfold wrapV at hpp
    rw [if_neg (by omega), if_neg (by omega), if_neg (by omega), if_neg (by omega), if_neg (by omega), if_neg (by omega), if_pos hk] at hpp
    unfold ownV at hown
    rw [if_neg (by omega), if_neg (by omega), if_neg (by omega), if_neg (by omega), if_neg (by omega), if_neg (by omega), if_pos hk] at hown
    simp only [Bool.and_eq_true, beq_iff_eq, decide_eq_true_eq] at hown
    obtain ⟨k0, g0, hk0, g1, gk, g2, g3, g4, g5, hx0⟩ := K0 (.inr (.inr hk))
    rw [hx0] at hpp
    have hkn := kd_int hok i hi 0 gk
    obtain ⟨bk, okk, hRk, _, hck⟩ := HS.out.k.at 0 gk
    rw [hkn, hk0] at hck
    subst hRk
    simp only [Nat.add_zero, vint] at hck
    obtain ⟨bR2, oR2, Sb, sb, Sn, sn, St, st, Sk, sk, hA2, _, hS2, hR2⟩ := HD.out.at k0 g0
    injection hA2 with hA2; injection hA2 with z1 z2 _; subst z1; subst z2
    obtain ⟨m0, m1, m2, m3, m4, m5, m6, m7⟩ := hR2
    have hpow := pow256 ds[k0].size.toNat
    have htag := (kids_len hok i hi).2.2.2.1 hk
    have htg := htag.2 _ hown.1.1
    have hge := tagN_get hown.1.1
    rw [List.getD_eq_getElem?_getD, List.getElem?_eq_getElem hown.1.1, Option.getD_some] at hge
    rw [hge, g5] at htg
    have hn0 : ((v.num.toNat : Nat) : Int) = v.num := Int.toNat_of_nonneg htg.1
    have hnn : v.num.toNat < 256 ^ ds[k0].size.toNat := by omega
    clear htag htg hge
    have CE : Hid (∀ w', Calls Tryz.prog 67 #[.agg #[.string ds[k0].nm, .int .i64 ds[k0].kind, .int .i64 ds[k0].size, .bool ds[k0].little, .slice Sb ds[k0].bytes.length sb, .slice Sn ds[k0].names.length sn, .slice St ds[k0].tags.length st, .slice Sk ds[k0].kids.length sk], .int .i64 v.num] w' fun e w'' => ∃ A4 n4 c4, e = .returned (.slice A4 n4 c4) ∧ OwnL vu8 5 w' w'' (.slice A4 n4 c4) (encI ds[k0] v.num.toNat) ∧ n4 = (encI ds[k0] v.num.toNat).length ∧ Ext w' w'') := fun w' => by
     have h := sEncI_s ds[k0] Sb sb Sn sn St st Sk sk v.num.toNat ⟨g3, g4⟩ hnn w'
     first | rwa [hn0] at h | exact h
    have HEL : Hid ((encI ds[k0] v.num.toNat).length ≤ 4) := by show _ ≤ _; rw [encI_len]; omega
    replace m0 := fun w' (e : Ext W0 w') => m0 w' (e0.trans e)
    replace m1 := fun w' (e : Ext W0 w') => m1 w' (e0.trans e)
    replace m2 := fun w' (e : Ext W0 w') => m2 w' (e0.trans e)
    replace m3 := fun w' (e : Ext W0 w') => m3 w' (e0.trans e)
    replace m4 := fun w' (e : Ext W0 w') => m4 w' (e0.trans e)
    replace m5 := fun w' (e : Ext W0 w') => m5 w' (e0.trans e)
    replace m6 := fun w' (e : Ext W0 w') => m6 w' (e0.trans e)
    replace m7 := fun w' (e : Ext W0 w') => m7 w' (e0.trans e)
    replace hck := fun w' (e : Ext W0 w') => hck w' (e0.trans e)
    have hk0i : (k0 : Int) < (ds.length : Int) := by omega
    have hk00 : (0 : Int) ≤ (k0 : Int) := by omega
    have hkl : (0 : Int) < (ds[i].kids.length : Int) := by omega
    have t1 : (ds[i].kind == 1) = false := by rw [hk]; rfl
    have t2 : (ds[i].kind == 2) = false := by rw [hk]; rfl
    have t4 : (ds[i].kind == 4) = false := by rw [hk]; rfl
    have t5 : (ds[i].kind == 5) = false := by rw [hk]; rfl
    have t7 : (ds[i].kind == 7) = true := by rw [hk]; rfl
    have t8 : (ds[i].kind == 8) = false := by rw [hk]; rfl
    have t9 : (ds[i].kind == 9) = false := by rw [hk]; rfl
    have t10 : (ds[i].kind == 10) = false := by rw [hk]; rfl
    have t3 : (ds[i].kind == 3) = false := by rw [hk]; rfl
    have SY : Hid (∀ w', Ext W0 w' → Ext W0 w' ∧ True) := fun _ h1 => ⟨h1, trivial⟩
    have hed := Ext_drew he
    have HXR : Ext wr wr.drew := Ext_drew (Ext.refl wr)
    generalize hEE : encI ds[k0] v.num.toNat = EE at *
    clear hEE
    have HPQ := Lib.hid hpp
    clear hpp
    have HBD : Hid ((EE.length + l.length) * 1 ≤ 140737488355328) := by show _ ≤ _; have := HEL.out; omega
    have HBL : Hid ((EE ++ l).length ≤ 140737488351232) := by show _ ≤ _; have := HEL.out; rw [List.length_append]; omega
    generalize ds[k0] = rk0 at *
    clear hown k1 k3 K0 TB CB2 hkd hk hx0 hk0 hkn g1 g2 g3 g4 g5 hnn
    go_wp2_with fail
    go_region_held3 (fun w' => Ext W0 w' ∧ True) (first | exact SY.out _ hed | exact SY.out _ (by assumption)) (first
     | (go_at_call 67; have hq := ‹Ext W0 _ ∧ True›; refine (CE.out _).mono ?_; rintro _ w5 ⟨A4, n4, c4, rfl, ho5, hn4, he5⟩; subst hn4; have hE5 := hq.1.trans he5; have HO5 := Lib.hid ho5; have hx5 := he5; clear ho5)
     | (refine step_appH rfl (.tmp 97) (.tmp 98) _ rfl E_u8 (by omega) wr.drew _ vu8 (fun _ => rfl) _ rfl _ _ _ rfl EE l HO5.out hx5 rfl (Rd.src HRI.out (HXR.trans hx5)) HBD.out ?_; intro v7 w7 ho7 he7 hv7 hg7; have hE7 : Ext W0 w7 := hed.trans he7; obtain ⟨A7, c7, hv7', _⟩ := OwnL.rd ho7 HBL.out; subst hv7'))
    all_goals
     have HO7 := Lib.hid ho7
     have L7 : (EE ++ l).length = EE.length + l.length := List.length_append
     clear ho7 hg7 hv7
     have HF : Hid (OwnL vu8 5 w w7 (.slice A7 (EE.length + l.length) c7) PP ∧ EE.length + l.length = PP.length) := by
      show _ ∧ _
      rw [← HPQ.out, ← L7]
      exact ⟨HO7.out.down (by have := he.size; show w.heap.size ≤ wr.heap.size; omega), rfl⟩
     clear HO7 L7
     go_wp2
     go_ret
     exact ⟨_, _, _, rfl, HF.out.1, HF.out.2, e0.trans hE7⟩
   ·obtain ⟨Au', cu', hui, hri⟩ := OwnL.rd ho.out (by omega : l.length ≤ 140737488351232)
    injection hui with y1 y2 y3
    subst y1; subst y3
    have HRI := Lib.hid hri
    clear hri
    unfold wrapV at hpp
    rw [if_neg (by omega), if_neg (by omega), if_neg (by omega), if_neg (by omega), if_neg (by omega), if_neg (by omega), if_neg (by omega), if_pos hk] at hpp
    unfold ownV at hown
    rw [if_neg (by omega), if_neg (by omega), if_neg (by omega), if_neg (by omega), if_neg (by omega), if_neg (by omega), if_neg (by omega), if_pos hk] at hown
    simp only [Bool.and_eq_true, beq_iff_eq, decide_eq_true_eq] at hown
    subst hpp
    have hm1 : v.items.length ≤ 1 := hown.2
    have hwm : IntKind.u8.wrap (v.items.length : Int) = (v.items.length : Int) := IntWalk.u8_in _ (by omega)
    have HY : ∀ (x : Int), x = ((v.items.length % 256 : Nat) : Int) → Hid (#[Value.int .u8 x] = ([UInt8.ofNat v.items.length].map vu8).toArray) := by
     intro x hx
     show _ = _
     have : (UInt8.ofNat v.items.length).toNat = v.items.length % 256 := by rw [UInt8.toNat_ofNat']
     simp [vu8, this, hx]
    have HL8 := Lib.hid (own_lit (f := vu8) (e := 5) (Ext.refl wr) [UInt8.ofNat v.items.length] #[.int .u8 (v.items.length : Int)] (HY _ (by omega)).out 1 rfl (by omega))
    have xr := Ext_alloc (.cells #[.int .u8 (v.items.length : Int)] 5) (Ext.refl wr)
    have HBD : Hid (([UInt8.ofNat v.items.length].length + l.length) * 1 ≤ 140737488355328) := by show _ ≤ _; simp; omega
    have HBL : Hid (([UInt8.ofNat v.items.length] ++ l).length ≤ 140737488351232) := by show _ ≤ _; simp; omega
    have t1 : (ds[i].kind == 1) = false := by rw [hk]; rfl
    have t2 : (ds[i].kind == 2) = false := by rw [hk]; rfl
    have t4 : (ds[i].kind == 4) = false := by rw [hk]; rfl
    have t5 : (ds[i].kind == 5) = false := by rw [hk]; rfl
    have t7 : (ds[i].kind == 7) = false := by rw [hk]; rfl
    have t8 : (ds[i].kind == 8) = true := by rw [hk]; rfl
    have t9 : (ds[i].kind == 9) = false := by rw [hk]; rfl
    have t10 : (ds[i].kind == 10) = false := by rw [hk]; rfl
    have t3 : (ds[i].kind == 3) = false := by rw [hk]; rfl
    clear hown k1 k3 K0 TB CB2 hkd hk HY
    go_wp2_with (first
     | (at_builtin; refine wpList_appL rfl (.tmp 106) (.tmp 107) _ rfl E_u8 (by omega) wr _ vu8 (fun _ => rfl) _ rfl _ _ _ rfl [UInt8.ofNat v.items.length] l HL8.out xr rfl (Rd.src HRI.out xr) HBD.out ?_; intro v4 w4 ho4 he4 hv4 hg4; obtain ⟨A4, c4, hvv, _⟩ := OwnL.rd ho4 HBL.out; rw [show ([UInt8.ofNat v.items.length] ++ l).length = l.length + 1 by simp] at hvv; subst hvv; have HO4 := Lib.hid ho4; clear ho4 hv4 hg4))
    go_ret
    exact ⟨_, _, _, rfl, HO4.out.down (by have := he.size; omega), by simp, e0.trans (he.trans he4)⟩
   ·obtain ⟨Au', cu', hui, hri⟩ := OwnL.rd ho.out (by omega : l.length ≤ 140737488351232)
    injection hui with y1 y2 y3
    subst y1; subst y3
    have HRI := Lib.hid hri
    clear hri
    unfold wrapV at hpp
    rw [if_neg (by omega), if_neg (by omega), if_neg (by omega), if_neg (by omega), if_neg (by omega), if_neg (by omega), if_neg (by omega), if_neg (by omega), if_pos hk] at hpp
    unfold ownV at hown
    rw [if_neg (by omega), if_neg (by omega), if_neg (by omega), if_neg (by omega), if_neg (by omega), if_neg (by omega), if_neg (by omega), if_neg (by omega), if_pos hk] at hown
    simp only [Bool.and_eq_true, beq_iff_eq, decide_eq_true_eq] at hown
    subst hpp
    have CS := Lib.hid (fun w' (e : Ext wr w') => sSumOfBytes_c Au l cu w' (HRI.out.ext e))
    have HY : ∀ (x : Int), x = ((sumB l % 256 : Nat) : Int) → Hid (#[Value.int .u8 x] = ([UInt8.ofNat (sumB l)].map vu8).toArray) := by
     intro x hx
     show _ = _
     have : (UInt8.ofNat (sumB l)).toNat = sumB l % 256 := by rw [UInt8.toNat_ofNat']
     simp [vu8, this, hx]
    have HBD : Hid ((l.length + [UInt8.ofNat (sumB l)].length) * 1 ≤ 140737488355328) := by show _ ≤ _; simp; omega
    have HBL : Hid ((l ++ [UInt8.ofNat (sumB l)]).length ≤ 140737488351232) := by show _ ≤ _; simp; omega
    have hsm : sumB l % 256 < 256 := Nat.mod_lt _ (by omega)
    generalize hsg : sumB l % 256 = sm at *
    have hwm : IntKind.u8.wrap (sm : Int) = (sm : Int) := IntWalk.u8_in _ (by omega)
    have t1 : (ds[i].kind == 1) = false := by rw [hk]; rfl
    have t2 : (ds[i].kind == 2) = false := by rw [hk]; rfl
    have t4 : (ds[i].kind == 4) = false := by rw [hk]; rfl
    have t5 : (ds[i].kind == 5) = false := by rw [hk]; rfl
    have t7 : (ds[i].kind == 7) = false := by rw [hk]; rfl
    have t8 : (ds[i].kind == 8) = false := by rw [hk]; rfl
    have t9 : (ds[i].kind == 9) = true := by rw [hk]; rfl
    have t10 : (ds[i].kind == 10) = false := by rw [hk]; rfl
    have t3 : (ds[i].kind == 3) = false := by rw [hk]; rfl
    clear hown k1 k3 K0 TB CB2 hkd hk
    go_wp2_with fail
    refine (CS.out _ (Ext.refl wr)).mono ?_; rintro _ w1 ⟨rfl, he1⟩
    have ho1 := Lib.hid (OwnL.ext ho.out he1)
    have e1 := he.trans he1
    go_wp2_with (first
     | (at_builtin; refine wpList_appN rfl (.tmp 111) (.tmp 115) _ rfl E_u8 (by omega) W0 _ vu8 (fun _ => rfl) _ rfl _ _ rfl l [UInt8.ofNat (sumB l)] _ (HY _ (by omega)).out ho1.out e1 rfl HBD.out ?_; intro v4 w4 ho4 he4; obtain ⟨A4, c4, hvv, _⟩ := OwnL.rd ho4 HBL.out; rw [show (l ++ [UInt8.ofNat (sumB l)]).length = l.length + 1 by simp] at hvv; subst hvv; have HO4 := Lib.hid ho4; clear ho4))
    go_ret
    exact ⟨_, _, _, rfl, HO4.out.down (by omega), by simp, e0.trans he4⟩
   ·unfold wrapV at hpp
    rw [if_neg (by omega), if_neg (by omega), if_neg (by omega), if_neg (by omega), if_neg (by omega), if_neg (by omega), if_neg (by omega), if_neg (by omega), if_neg (by omega)] at hpp
    unfold ownV at hown
    rw [if_neg (by omega), if_neg (by omega), if_neg (by omega), if_neg (by omega), if_neg (by omega), if_neg (by omega), if_neg (by omega), if_neg (by omega), if_neg (by omega)] at hown
    simp only [Bool.and_eq_true, beq_iff_eq, decide_eq_true_eq] at hown
    obtain ⟨hb92, hlen1⟩ := TB hk
    have hgd : ds[i].bytes.getD 0 0 = ds[i].bytes[0]'(by omega) := by simp [hlen1]
    rw [hgd] at hpp
    obtain rfl := HL0.out hown.2
    obtain ⟨bb, ob, hRb, _, hcb⟩ := HS.out.b.at 0 (by omega)
    subst hRb
    simp only [Nat.add_zero, vu8] at hcb
    have pt := fun w' (e : Ext W0 w') => hcb w' (e0.trans e)
    have hl01 : (0 : Int) < (ds[i].bytes.length : Int) := by omega
    generalize ds[i].bytes[0]'(by omega) = tb at *
    have htb8 := tb.toNat_lt
    have HPQ := Lib.hid hpp
    have t1 : (ds[i].kind == 1) = false := by rw [hk]; rfl
    have t2 : (ds[i].kind == 2) = false := by rw [hk]; rfl
    have t4 : (ds[i].kind == 4) = false := by rw [hk]; rfl
    have t5 : (ds[i].kind == 5) = false := by rw [hk]; rfl
    have t7 : (ds[i].kind == 7) = false := by rw [hk]; rfl
    have t8 : (ds[i].kind == 8) = false := by rw [hk]; rfl
    have t9 : (ds[i].kind == 9) = false := by rw [hk]; rfl
    have t10 : (ds[i].kind == 10) = true := by rw [hk]; rfl
    have t3 : (ds[i].kind == 3) = false := by rw [hk]; rfl
    clear hown k1 k3 K0 TB CB2 hkd hk hcb hpp hgd hlen1 hb92
    go_wp2
    go_loopw [8, 10] (fun u ix wr2 => ∃ (j : Nat) (A2 : Option Addr) (c2 : Nat) (o : List UInt8), j ≤ v.bytes.length ∧ ix = .int .i64 j ∧ u = .slice A2 o.length c2 ∧ o.length ≤ 2 * j ∧ Hid (o = escB tb (v.bytes.take j)) ∧ Hid (OwnL vu8 5 W0 wr2 (.slice A2 o.length c2) o) ∧ Ext W0 wr2) (fun _ ix _ => v.bytes.length - (intOf ix).toNat)
    case atStart => exact ⟨0, Au, cu, [], by omega, rfl, rfl, by simp, by simp [Hid, escB], ho, he⟩
    case round =>
     clear ho he
     obtain ⟨j, A2, c2, o, hj, rfl, rfl, hol, ho0, ho, he⟩ := hrel
     by_cases hlt2 : j < v.bytes.length
     ·obtain ⟨b2, o2, hA2, hb2, hc2⟩ := HBS.out.at j hlt2
      subst hA2
      simp only [vu8] at hc2
      have px := fun w' (e : Ext W0 w') => hc2 w' (e0.trans e)
      have hst := escB_take tb v.bytes j hlt2
      rw [← ho0.out] at hst
      have hxt := u8_eq v.bytes[j] tb
      have hx9 := u8_eq v.bytes[j] 92
      rw [show ((92 : UInt8).toNat : Int) = 92 from rfl] at hx9
      have h8 := v.bytes[j].toNat_lt
      have hji : (j : Int) < (v.bytes.length : Int) := by omega
      have hj0 : (0 : Int) ≤ (j : Int) := by omega
      generalize v.bytes[j] = x at *
      have H92 : Hid (#[Value.int .u8 92] = ([(92 : UInt8)].map vu8).toArray) := rfl
      have HX : Hid (#[Value.int .u8 (x.toNat : Int)] = ([x].map vu8).toArray) := rfl
      have HB1 : ∀ y : UInt8, Hid ((o.length + [y].length) * 1 ≤ 140737488355328) := by intro y; show _ ≤ _; simp; omega
      have HB2' : ∀ y : UInt8, Hid (((o ++ [(92 : UInt8)]).length + [y].length) * 1 ≤ 140737488355328) := by intro y; show _ ≤ _; simp; omega
      have HL1 : ∀ y : UInt8, Hid ((o ++ [y]).length ≤ 140737488351232) := by intro y; show _ ≤ _; simp; omega
      have HL2 : ∀ y : UInt8, Hid ((o ++ [(92 : UInt8)] ++ [y]).length ≤ 140737488351232) := by intro y; show _ ≤ _; simp; omega
      have HST := Lib.hid hst
      clear hst hc2
      by_cases hesc : x = tb ∨ x = 92
      ·have HN : Hid (o ++ [92] ++ [x] = escB tb (v.bytes.take (j + 1))) := by show _ = _; rw [HST.out, if_pos hesc]; simp
       have HS2 : Hid ((o ++ [(92 : UInt8)] ++ [x]).length = o.length + 1 + 1) := by show _ = _; simp
       have hcond : ((x.toNat : Int) == (tb.toNat : Int)) = true ∨ (((x.toNat : Int) == (tb.toNat : Int)) = false ∧ ((x.toNat : Int) == 92) = true) := by
        rw [hxt, hx9]
        by_cases h : x = tb
        ·left; simp [h]
        ·right; simp [h]; rcases hesc with h' | h'
         ·exact absurd h' h
         ·exact h'
       clear hxt hx9 hesc HST
       rcases hcond with hxt | ⟨hxt, hx9⟩
       all_goals
        go_wp2_with fail
        refine wp_region_quiet_below (by kernel_rfl) (by kernel_rfl) ?_
        repeat (go_big_quiet_step (fail))
        refine wpQuiet_nil ?_
        rintro w1 ⟨⟨nq, osq⟩, hq⟩
        have ew1 := ext_of_q hq
        clear hq nq osq
        have ho1 := Lib.hid (OwnL.ext ho.out ew1)
        have e1 := he.trans ew1
        go_wp2_with (first
         | (at_builtin; refine wpList_appN rfl (.tmp 144) (.tmp 145) _ rfl E_u8 (by omega) W0 _ vu8 (fun _ => rfl) _ rfl _ _ rfl o [(92 : UInt8)] _ H92.out ho1.out e1 rfl (HB1 _).out ?_; intro v3 w3 ho3 he3; obtain ⟨A3, c3, hvv3, _⟩ := OwnL.rd ho3 (HL1 _).out; rw [show (o ++ [(92 : UInt8)]).length = o.length + 1 by simp] at hvv3; subst hvv3; have HO3 := Lib.hid ho3; clear ho3)
         | (at_builtin; refine wpList_appN rfl (.tmp 147) (.tmp 153) _ rfl E_u8 (by omega) W0 _ vu8 (fun _ => rfl) _ rfl _ _ rfl (o ++ [(92 : UInt8)]) [x] _ HX.out HO3.out he3 rfl (HB2' _).out ?_; intro v4 w4 ho4 he4; obtain ⟨A4, c4, hvv4, _⟩ := OwnL.rd ho4 (HL2 _).out; rw [show ((o ++ [(92 : UInt8)]) ++ [x]).length = (o.length + 1) + 1 by simp] at hvv4; subst hvv4; have HO4 := Lib.hid ho4; clear ho4))
        go_wp2
        go_roundw
        case rel => exact ⟨j + 1, A4, c4, o ++ [92] ++ [x], by omega, by go_num, by rw [HS2.out], by rw [HS2.out]; omega, HN, by rw [HS2.out]; exact HO4, he4⟩
        case measure => simp [intOf]; omega
      ·have HN : Hid (o ++ [x] = escB tb (v.bytes.take (j + 1))) := by show _ = _; rw [HST.out, if_neg hesc]
       have HS2 : Hid ((o ++ [x]).length = o.length + 1) := by show _ = _; simp
       rw [decide_eq_false (fun h => hesc (.inl h))] at hxt
       rw [decide_eq_false (fun h => hesc (.inr h))] at hx9
       clear hesc HST
       go_wp2_with fail
       refine wp_region_quiet_below (by kernel_rfl) (by kernel_rfl) ?_
       repeat (go_big_quiet_step (fail))
       refine wpQuiet_nil ?_
       rintro w1 ⟨⟨nq, osq⟩, hq⟩
       have ew1 := ext_of_q hq
       clear hq nq osq
       have ho1 := Lib.hid (OwnL.ext ho.out ew1)
       have e1 := he.trans ew1
       go_wp2_with (first
        | (at_builtin; refine wpList_appN rfl (.tmp 147) (.tmp 153) _ rfl E_u8 (by omega) W0 _ vu8 (fun _ => rfl) _ rfl _ _ rfl o [x] _ HX.out ho1.out e1 rfl (HB1 _).out ?_; intro v4 w4 ho4 he4; obtain ⟨A4, c4, hvv4, _⟩ := OwnL.rd ho4 (HL1 _).out; rw [show (o ++ [x]).length = o.length + 1 by simp] at hvv4; subst hvv4; have HO4 := Lib.hid ho4; clear ho4))
       go_wp2
       go_roundw
       case rel => exact ⟨j + 1, A4, c4, o ++ [x], by omega, by go_num, by rw [HS2.out], by rw [HS2.out]; omega, HN, by rw [HS2.out]; exact HO4, he4⟩
       case measure => simp [intOf]; omega
     ·obtain rfl : j = v.bytes.length := by omega
      have ho1 := ho0.out
      rw [List.take_length] at ho1
      have HS2 : Hid ((o ++ [tb]).length = o.length + 1) := by show _ = _; simp
      have HX : Hid (#[Value.int .u8 (tb.toNat : Int)] = ([tb].map vu8).toArray) := rfl
      have HB1 : Hid ((o.length + [tb].length) * 1 ≤ 140737488355328) := by show _ ≤ _; simp; omega
      have HL1 : Hid ((o ++ [tb]).length ≤ 140737488351232) := by show _ ≤ _; simp; omega
      have HF : Hid (o ++ [tb] = PP) := by show _ = _; rw [← HPQ.out, ho1]
      clear ho1
      go_wp2_with (first
       | (at_builtin; refine wpList_appN rfl (.tmp 155) (.tmp 160) _ rfl E_u8 (by omega) W0 _ vu8 (fun _ => rfl) _ rfl _ _ rfl o [tb] _ HX.out ho.out he rfl HB1.out ?_; intro v4 w4 ho4 he4; obtain ⟨A4, c4, hvv4, _⟩ := OwnL.rd ho4 HL1.out; rw [show (o ++ [tb]).length = o.length + 1 by simp] at hvv4; subst hvv4; have HO4 := Lib.hid ho4; clear ho4))
      go_ret
      exact ⟨_, _, _, rfl, by rw [← HF.out]; exact HO4.out.down (by omega), by rw [← HF.out, HS2.out], e0.trans he4⟩
theorem sPrint_all (A : Option Addr) (ds : List DRule) (c : Nat) (hok : descOk ds = true) : ∀ v, sPrintOk A ds c v := fun v => DVal.ind (sPrint_of A ds c hok) v
def printF (ds : List DRule) (v : DVal) : Option (List UInt8) := if validB ds ((ds.length : Int) - 1) v = true ∧ (printV ds (ds.length - 1) v).length ≤ 400 then some (printV ds (ds.length - 1) v) else none
def PrOut (ds : List DRule) (v : DVal) (w : World) (e : Ending) (w' : World) : Prop := ∃ A4 n4 c4, e = .returned (.tuple #[.slice A4 n4 c4, .bool (printF ds v).isSome]) ∧ OwnL vu8 5 w w' (.slice A4 n4 c4) ((printF ds v).getD []) ∧ n4 = ((printF ds v).getD []).length ∧ Ext w w'
theorem printF_yes {ds : List DRule} {v : DVal} {b : List UInt8} (h : printF ds v = some b) : descOk ds = true ∧ 0 < ds.length ∧ validV ds (ds.length - 1) v = true ∧ b = printV ds (ds.length - 1) v ∧ b.length ≤ 400 := by
 unfold printF at h
 split at h
 ·rename_i hc
  injection h with h
  subst h
  have h1 := hc.1
  unfold validB at h1
  rw [Bool.and_eq_true] at h1
  obtain ⟨hd, k, hk, hkk⟩ := knownB_desc h1.1
  have hk' : k = ds.length - 1 := by omega
  refine ⟨hd, by omega, ?_, rfl, hc.2⟩
  have := h1.2
  rwa [show ((ds.length : Int) - 1).toNat = ds.length - 1 by omega] at this
 ·cases h
theorem sPrintRoot_c (A : Option Addr) (ds : List DRule) (c : Nat) (v : DVal) (Vb : Option Addr) (vb : Nat) (Vi : Option Addr) (vi : Nat) (w : World) (hd : RdD w A ds c) (hs : ShortD ds) (hw : WfD ds) (hv : RdV w v Vb vb Vi vi) (hz : szV v ≤ 1099511627776) :
 Calls Tryz.prog 25 #[vdesc (.slice A ds.length c), .int .i64 ((ds.length : Int) - 1), vval v (.slice Vb v.bytes.length vb) (.slice Vi v.items.length vi)] w (PrOut ds v w) := by
 have hl := hd.len
 have CV := Lib.hid (fun w' (e : Ext w w') => sValid_c A ds c ((ds.length : Int) - 1) v Vb vb Vi vi w' (hd.ext e) hs hw (hv.ext e))
 have CP : Hid (descOk ds = true → validV ds (ds.length - 1) v = true → 0 < ds.length → ∀ w', Ext w w' → Calls Tryz.prog 50 #[.agg #[.slice A ds.length c], .int .i64 ((ds.length : Int) - 1), .agg #[.int .i64 v.num, .slice Vb v.bytes.length vb, .slice Vi v.items.length vi]] w' fun e w'' => ∃ A4 n4 c4, e = .returned (.slice A4 n4 c4) ∧ OwnL vu8 5 w' w'' (.slice A4 n4 c4) (printV ds (ds.length - 1) v) ∧ n4 = (printV ds (ds.length - 1) v).length ∧ Ext w' w'') := fun hok hvv h0 w' e => by
  have h := sPrint_all A ds c hok v (ds.length - 1) (by omega) Vb vb Vi vi w' (hd.ext e) (hv.ext e) hvv hz
  rwa [show ((ds.length - 1 : Nat) : Int) = (ds.length : Int) - 1 by omega] at h
 have HDV : Hid (validB ds ((ds.length : Int) - 1) v = true → descOk ds = true ∧ validV ds (ds.length - 1) v = true ∧ 0 < ds.length) := fun h1 => by
  unfold validB at h1
  rw [Bool.and_eq_true] at h1
  obtain ⟨hd, k, hk, hkk⟩ := knownB_desc h1.1
  have := h1.2
  rw [show ((ds.length : Int) - 1).toNat = ds.length - 1 by omega] at this
  exact ⟨hd, this, by omega⟩
 obtain ⟨O, hO⟩ : ∃ O, printF ds v = O := ⟨_, rfl⟩
 unfold PrOut
 rw [hO]
 unfold printF at hO
 have HO := Lib.hid hO
 clear hO
 obtain ⟨W0, HW0, B1, B2, e0, hs0⟩ := boxes2' w #[.slice A ds.length c] #[.int .i64 v.num, .slice Vb v.bytes.length vb, .slice Vi v.items.length vi] 26 29
 have d0 : ∀ w', Ext W0 w' → _ = some (Value.slice A ds.length c) := fun w' e => B1.at 0 w' e
 have v0 : ∀ w', Ext W0 w' → _ = some (Value.int .i64 v.num) := fun w' e => B2.at 0 w' e
 have v1 : ∀ w', Ext W0 w' → _ = some (Value.slice Vb v.bytes.length vb) := fun w' e => B2.at 1 w' e
 have v2 : ∀ w', Ext W0 w' → _ = some (Value.slice Vi v.items.length vi) := fun w' e => B2.at 2 w' e
 have hsz := e0.size
 clear B1 B2 hs0 hd hv
 unfold vdesc vval at *
 cases hvb : validB ds ((ds.length : Int) - 1) v
 ·have hO := HO.out
  rw [if_neg (by simp [hvb])] at hO
  subst hO
  rw [hvb] at CV
  go_enter Tryz.func25, Tryz.ntmps25
  go_wp2_with fail
  rw [← HW0.out]
  refine (CV.out _ e0).mono ?_; rintro _ w1 ⟨rfl, he1⟩
  go_wp2
  exact bodyPost_ret (v := .tuple #[.slice (some ⟨w1.heap.size, 0, none⟩) 0 0, .bool false]) (by simp [results, Tryz.results25, go_sem]) rfl ⟨_, _, _, rfl, OwnL.empty (e0.trans he1), rfl, Ext_alloc _ (e0.trans he1)⟩
 ·rw [hvb] at CV
  obtain ⟨h1, h2, h3⟩ := HDV.out hvb
  have CP1 := Lib.hid (CP.out h1 h2 h3)
  clear CP HDV
  generalize printV ds (ds.length - 1) v = L at *
  by_cases h4 : L.length ≤ 400
  ·have hO := HO.out
   rw [if_pos ⟨hvb, h4⟩] at hO
   subst hO
   have h4i : ¬ (400 : Int) < (L.length : Int) := by omega
   go_enter Tryz.func25, Tryz.ntmps25
   go_wp2_with fail
   rw [← HW0.out]
   refine (CV.out _ e0).mono ?_; rintro _ w1 ⟨rfl, he1⟩
   have e1 := e0.trans he1
   go_wp2_with fail
   refine (CP1.out _ e1).mono ?_; rintro _ w2 ⟨A4, n4, c4, rfl, ho, hn, he2⟩
   subst hn
   have hsz1 := e1.size
   have HOO := Lib.hid (ho.down hsz1)
   clear ho
   go_wp2
   exact bodyPost_ret (v := .tuple #[.slice A4 L.length c4, .bool true]) (by simp [results, Tryz.results25, go_sem]) rfl ⟨_, _, _, rfl, HOO.out, rfl, e1.trans he2⟩
  ·have hO := HO.out
   rw [if_neg (fun h => h4 h.2)] at hO
   subst hO
   have h4i : (400 : Int) < (L.length : Int) := by omega
   go_enter Tryz.func25, Tryz.ntmps25
   go_wp2_with fail
   rw [← HW0.out]
   refine (CV.out _ e0).mono ?_; rintro _ w1 ⟨rfl, he1⟩
   have e1 := e0.trans he1
   go_wp2_with fail
   refine (CP1.out _ e1).mono ?_; rintro _ w2 ⟨A4, n4, c4, rfl, ho, hn, he2⟩
   subst hn
   have e2 := e1.trans he2
   clear ho
   go_wp2
   exact bodyPost_ret (v := .tuple #[.slice (some ⟨w2.heap.size, 0, none⟩) 0 0, .bool false]) (by simp [results, Tryz.results25, go_sem]) rfl ⟨_, _, _, rfl, OwnL.empty e2, rfl, Ext_alloc _ e2⟩
theorem sPrintFile_c (A : Option Addr) (ds : List DRule) (c : Nat) (v : DVal) (Vb : Option Addr) (vb : Nat) (Vi : Option Addr) (vi : Nat) (w : World) (hd : RdD w A ds c) (hs : ShortD ds) (hw : WfD ds) (hv : RdV w v Vb vb Vi vi) (hz : szV v ≤ 1099511627776) :
 Calls Tryz.prog 8 #[vdesc (.slice A ds.length c), vval v (.slice Vb v.bytes.length vb) (.slice Vi v.items.length vi)] w (PrOut ds v w) := by
 have hl := hd.len
 have CO := Lib.hid (fun w' => sRoot_c A ds c w' hl)
 have CP := Lib.hid (fun w' (e : Ext w w') => sPrintRoot_c A ds c v Vb vb Vi vi w' (hd.ext e) hs hw (hv.ext e) hz)
 unfold PrOut at *
 generalize printF ds v = O at *
 obtain ⟨W0, HW0, B1, B2, e0, hs0⟩ := boxes2' w #[.slice A ds.length c] #[.int .i64 v.num, .slice Vb v.bytes.length vb, .slice Vi v.items.length vi] 26 29
 have d0 : ∀ w', Ext W0 w' → _ = some (Value.slice A ds.length c) := fun w' e => B1.at 0 w' e
 have v0 : ∀ w', Ext W0 w' → _ = some (Value.int .i64 v.num) := fun w' e => B2.at 0 w' e
 have v1 : ∀ w', Ext W0 w' → _ = some (Value.slice Vb v.bytes.length vb) := fun w' e => B2.at 1 w' e
 have v2 : ∀ w', Ext W0 w' → _ = some (Value.slice Vi v.items.length vi) := fun w' e => B2.at 2 w' e
 have hsz := e0.size
 clear B1 B2 hs0 hd hv
 unfold vdesc vval at *
 have SY : Hid (∀ w', Ext W0 w' → Ext W0 w' ∧ True) := fun _ h1 => ⟨h1, trivial⟩
 have HXD : Ext W0 W0.drew := Ext_drew (Ext.refl W0)
 go_enter Tryz.func8, Tryz.ntmps8
 go_wp2_with fail
 rw [← HW0.out]
 go_region_held3 (fun w' => Ext W0 w' ∧ True) (first | exact SY.out _ HXD | exact SY.out _ (by assumption)) (first
  | (go_at_call 26; have hq := ‹Ext W0 _ ∧ True›; refine (CO.out _).mono ?_; rintro _ w4 ⟨rfl, he4⟩; have hE4 := hq.1.trans he4)
  | (go_at_call 25; have hq := ‹Ext W0 _ ∧ True›; refine (CP.out _ (e0.trans hq.1)).mono ?_; rintro _ w5 ⟨A4, n4, c4, rfl, ho5, hn4, he5⟩; subst hn4; have hE5 := hq.1.trans he5; have HO5 := Lib.hid ho5; clear ho5))
 all_goals
  have hz4 := hE4.size
  have HF := Lib.hid (HO5.out.down (w0 := w) (by omega))
  clear HO5
  go_wp2
  exact bodyPost_ret (v := .tuple #[.slice A4 (O.getD []).length c4, .bool O.isSome]) (by simp [results, Tryz.results8, go_sem]) rfl ⟨_, _, _, rfl, HF.out, rfl, e0.trans hE5⟩
def tagI (l : List Int) (t : Int) : Int := if tagN l t < l.length then (tagN l t : Int) else -1
theorem iTag1_c (g : Nat) (x t : Int) (w : World) (hc : ∀ w', Ext w w' → w'.cell? ⟨g, 0, none⟩ = some (.int .i64 t)) :
 Gives Tryz.prog 63 #[.int .i64 x, .pointer (some ⟨g, 0, none⟩)] w (.bool (x == t)) := by
 go_enter Tryz.func63, Tryz.ntmps63
 go_wp2
 go_ret
 exact ⟨rfl, Ext.refl _⟩
theorem idxTag_c (A : Option Addr) (l : List Int) (c : Nat) (g : Nat) (t : Int) (w : World) (h : Rd0 vint w A l c) (hc : ∀ w', Ext w w' → w'.cell? ⟨g, 0, none⟩ = some (.int .i64 t)) :
 Gives Tryz.prog 62 #[.slice A l.length c, .func (.func 63) #[] #[.pointer (some ⟨g, 0, none⟩)]] w (.int .i64 (tagI l t)) := by
 have hl := h.len
 have FY : Hid (∀ k (hk : k < l.length), (∀ j (hj : j < l.length), j < k → l[j] ≠ t) → l[k] = t → tagI l t = (k : Int)) := by
  intro k hk hn he; unfold tagI; rw [tagN_at hk he hn, if_pos hk]
 have FN : Hid ((∀ j (hj : j < l.length), l[j] ≠ t) → tagI l t = -1) := by
  intro hn; unfold tagI; rw [tagN_none hn, if_neg (Nat.lt_irrefl _)]
 generalize tagI l t = R at *
 have C := Lib.hid (fun x w' (e : Ext w w') => iTag1_c g x t w' (fun w'' e' => hc w'' (e.trans e')))
 clear hc
 go_enter Tryz.func62, Tryz.ntmps62
 go_wp2
 go_loopw [9] (fun ix wr => ∃ k : Nat, k ≤ l.length ∧ ix = .int .i64 k ∧ Hid (∀ j (hj : j < l.length), j < k → l[j] ≠ t) ∧ Ext w wr) (fun ix _ => l.length - (intOf ix).toNat)
 case atStart => exact ⟨0, by omega, rfl, (fun j _ hj => by omega), Ext.refl _⟩
 case round =>
  obtain ⟨k, hk, rfl, hn, he⟩ := hrel
  by_cases hlt : k < l.length
  ·obtain ⟨b, off, rfl, hb, hcl⟩ := h.at k hlt
   have Y := Lib.hid (FY.out k hlt hn.out)
   have N : Hid (¬ l[k] = t → ∀ j (hj : j < l.length), j < k + 1 → l[j] ≠ t) := fun hne j hj hjk => by
    rcases (by omega : j < k ∨ j = k) with hjk | rfl
    ·exact hn.out j hj hjk
    ·exact hne
   generalize l[k] = x at *
   clear FY FN hn h
   by_cases hx : x = t
   ·have HE := Lib.hid (Y.out hx); clear Y N
    have kx : (x == t) = true := by simpa using hx
    clear hx
    go_wp2_with fail
    refine (C.out _ _ he).mono ?_; rintro _ w1 ⟨rfl, s1⟩; rw [kx]
    go_wp2
    go_ret
    exact ⟨ret_i64 HE.out.symm, he.trans s1⟩
   ·have HE := Lib.hid (N.out hx); clear Y N
    have kx : (x == t) = false := by simpa using hx
    clear hx
    go_wp2_with fail
    refine (C.out _ _ he).mono ?_; rintro _ w1 ⟨rfl, s1⟩; rw [kx]
    go_wp2
    go_roundw
    case rel => exact ⟨k + 1, by omega, by go_num, HE, he.trans s1⟩
    case measure => simp [intOf]; omega
  ·have HE := Lib.hid (FN.out (fun j hj => hn.out j hj (by omega)))
   clear FY FN
   go_wp2
   go_ret
   exact ⟨ret_i64 HE.out.symm, he⟩
theorem iTagIx_c (p : DRule) (Ab : Option Addr) (cb : Nat) (An : Option Addr) (cn : Nat) (At : Option Addr) (ct : Nat) (Ak : Option Addr) (ck : Nat) (t : Int) (w : World) (h : RdS w p Ab cb An cn At ct Ak ck) :
 Gives Tryz.prog 37 #[vrule p (.slice Ab p.bytes.length cb) (.slice An p.names.length cn) (.slice At p.tags.length ct) (.slice Ak p.kids.length ck), .int .i64 t] w (.int .i64 (tagI p.tags t)) := by
 have eb := Ext_alloc (.cells #[.int .i64 t] 3) (Ext_alloc (.cells #[.string p.nm, .int .i64 p.kind, .int .i64 p.size, .bool p.little, .slice Ab p.bytes.length cb, .slice An p.names.length cn, .slice At p.tags.length ct, .slice Ak p.kids.length ck] 51) (Ext.refl w))
 have BX := fun w' (e : Ext ((w.alloc (.cells #[.string p.nm, .int .i64 p.kind, .int .i64 p.size, .bool p.little, .slice Ab p.bytes.length cb, .slice An p.names.length cn, .slice At p.tags.length ct, .slice Ak p.kids.length ck] 51)).alloc (.cells #[.int .i64 t] 3)) w') => boxed2 e
 have B0 := fun w' e => (BX w' e).1
 have B1 := fun w' e => (BX w' e).2.1
 clear BX
 have C := Lib.hid (idxTag_c At p.tags ct (w.heap.size + 1) t _ (h.t.ext eb) (fun w' e => B1 w' e 0))
 unfold vrule
 go_enter Tryz.func37, Tryz.ntmps37
 go_wp2_with fail
 refine C.out.mono ?_; rintro _ w1 ⟨rfl, s1⟩
 go_wp2
 go_ret
 exact ⟨rfl, eb.trans s1⟩
theorem plainExt_c (p q : DRule) (Ab : Option Addr) (cb : Nat) (An : Option Addr) (cn : Nat) (At : Option Addr) (ct : Nat) (Ak : Option Addr) (ck : Nat) (Ab' : Option Addr) (cb' : Nat) (An' : Option Addr) (cn' : Nat) (At' : Option Addr) (ct' : Nat) (Ak' : Option Addr) (ck' : Nat) (w : World) (h : RdS w p Ab cb An cn At ct Ak ck) (h' : RdS w q Ab' cb' An' cn' At' ct' Ak' ck') (hs : ShortR p) (hs' : ShortR q) :
 Gives Tryz.prog 127 #[vrule p (.slice Ab p.bytes.length cb) (.slice An p.names.length cn) (.slice At p.tags.length ct) (.slice Ak p.kids.length ck), vrule q (.slice Ab' q.bytes.length cb') (.slice An' q.names.length cn') (.slice At' q.tags.length ct') (.slice Ak' q.kids.length ck')] w (.bool (p.size == q.size && (p.little == q.little && p.bytes == q.bytes))) := by
 have eb := Ext_alloc (.cells #[.string q.nm, .int .i64 q.kind, .int .i64 q.size, .bool q.little, .slice Ab' q.bytes.length cb', .slice An' q.names.length cn', .slice At' q.tags.length ct', .slice Ak' q.kids.length ck'] 51) (Ext_alloc (.cells #[.string p.nm, .int .i64 p.kind, .int .i64 p.size, .bool p.little, .slice Ab p.bytes.length cb, .slice An p.names.length cn, .slice At p.tags.length ct, .slice Ak p.kids.length ck] 116) (Ext.refl w))
 have BX := fun w' (e : Ext ((w.alloc (.cells #[.string p.nm, .int .i64 p.kind, .int .i64 p.size, .bool p.little, .slice Ab p.bytes.length cb, .slice An p.names.length cn, .slice At p.tags.length ct, .slice Ak p.kids.length ck] 116)).alloc (.cells #[.string q.nm, .int .i64 q.kind, .int .i64 q.size, .bool q.little, .slice Ab' q.bytes.length cb', .slice An' q.names.length cn', .slice At' q.tags.length ct', .slice Ak' q.kids.length ck'] 51)) w') => boxed2 e
 have B0 := fun w' e => (BX w' e).1
 have B1 := fun w' e => (BX w' e).2.1
 clear BX
 have C := Lib.hid (fun w' (e : Ext w w') => iEqualBytes_c Ab Ab' p.bytes q.bytes cb cb' w' ⟨h.b.ext e, hs.1⟩ ⟨h'.b.ext e, hs'.1⟩)
 unfold vrule
 generalize (p.bytes == q.bytes) = z at *
 generalize p.little = lp at *
 generalize q.little = lq at *
 cases g1 : (p.size == q.size)
 ·go_enter Tryz.func127, Tryz.ntmps127
  go_wp2
  go_ret
  exact ⟨ret_bool (by simp), eb⟩
 ·cases g2 : (lp == lq)
  ·go_enter Tryz.func127, Tryz.ntmps127
   go_wp2
   go_ret
   exact ⟨ret_bool (by simp), eb⟩
  ·obtain rfl : lp = lq := by simpa using g2
   clear g2
   go_enter Tryz.func127, Tryz.ntmps127
   go_wp2_with fail
   refine (C.out _ eb).mono ?_; rintro _ w1 ⟨rfl, s1⟩
   go_wp2
   go_ret
   exact ⟨ret_bool (by simp), eb.trans s1⟩
theorem partsExt_c (p q : DRule) (Ab : Option Addr) (cb : Nat) (An : Option Addr) (cn : Nat) (At : Option Addr) (ct : Nat) (Ak : Option Addr) (ck : Nat) (Ab' : Option Addr) (cb' : Nat) (An' : Option Addr) (cn' : Nat) (At' : Option Addr) (ct' : Nat) (Ak' : Option Addr) (ck' : Nat) (w : World) (h : RdS w p Ab cb An cn At ct Ak ck) (h' : RdS w q Ab' cb' An' cn' At' ct' Ak' ck') :
 Gives Tryz.prog 124 #[vrule p (.slice Ab p.bytes.length cb) (.slice An p.names.length cn) (.slice At p.tags.length ct) (.slice Ak p.kids.length ck), vrule q (.slice Ab' q.bytes.length cb') (.slice An' q.names.length cn') (.slice At' q.tags.length ct') (.slice Ak' q.kids.length ck')] w (.bool (eqNms p.names q.names && decide (p.kids.length = q.kids.length))) := by
 have eb := Ext_alloc (.cells #[.string q.nm, .int .i64 q.kind, .int .i64 q.size, .bool q.little, .slice Ab' q.bytes.length cb', .slice An' q.names.length cn', .slice At' q.tags.length ct', .slice Ak' q.kids.length ck'] 51) (Ext_alloc (.cells #[.string p.nm, .int .i64 p.kind, .int .i64 p.size, .bool p.little, .slice Ab p.bytes.length cb, .slice An p.names.length cn, .slice At p.tags.length ct, .slice Ak p.kids.length ck] 114) (Ext.refl w))
 have BX := fun w' (e : Ext ((w.alloc (.cells #[.string p.nm, .int .i64 p.kind, .int .i64 p.size, .bool p.little, .slice Ab p.bytes.length cb, .slice An p.names.length cn, .slice At p.tags.length ct, .slice Ak p.kids.length ck] 114)).alloc (.cells #[.string q.nm, .int .i64 q.kind, .int .i64 q.size, .bool q.little, .slice Ab' q.bytes.length cb', .slice An' q.names.length cn', .slice At' q.tags.length ct', .slice Ak' q.kids.length ck'] 51)) w') => boxed2 e
 have B0 := fun w' e => (BX w' e).1
 have B1 := fun w' e => (BX w' e).2.1
 clear BX
 have C := Lib.hid (fun w' (e : Ext w w') => iEqTexts_c An An' p.names q.names cn cn' w' (h.n.ext e) (h'.n.ext e))
 unfold vrule
 generalize eqNms p.names q.names = z at *
 have hq : ((p.kids.length : Int) == (q.kids.length : Int)) = decide (p.kids.length = q.kids.length) := by
  rw [Bool.eq_iff_iff]; simp; try omega
 have HQ := Lib.hid hq; clear hq
 cases z
 ·go_enter Tryz.func124, Tryz.ntmps124
  go_wp2_with fail
  refine (C.out _ eb).mono ?_; rintro _ w1 ⟨rfl, s1⟩
  go_wp2
  go_ret
  exact ⟨ret_bool (by simp), eb.trans s1⟩
 ·go_enter Tryz.func124, Tryz.ntmps124
  go_wp2_with fail
  refine (C.out _ eb).mono ?_; rintro _ w1 ⟨rfl, s1⟩
  replace B0 := fun w' (e : Ext w1 w') => B0 w' (Ext.trans s1 e); replace B1 := fun w' (e : Ext w1 w') => B1 w' (Ext.trans s1 e)
  go_wp2
  go_ret
  exact ⟨ret_bool (by simp [HQ.out]), eb.trans s1⟩
theorem tagsExt_c (p q : DRule) (Ab : Option Addr) (cb : Nat) (An : Option Addr) (cn : Nat) (At : Option Addr) (ct : Nat) (Ak : Option Addr) (ck : Nat) (Ab' : Option Addr) (cb' : Nat) (An' : Option Addr) (cn' : Nat) (At' : Option Addr) (ct' : Nat) (Ak' : Option Addr) (ck' : Nat) (w : World) (h : RdS w p Ab cb An cn At ct Ak ck) (h' : RdS w q Ab' cb' An' cn' At' ct' Ak' ck') :
 Gives Tryz.prog 126 #[vrule p (.slice Ab p.bytes.length cb) (.slice An p.names.length cn) (.slice At p.tags.length ct) (.slice Ak p.kids.length ck), vrule q (.slice Ab' q.bytes.length cb') (.slice An' q.names.length cn') (.slice At' q.tags.length ct') (.slice Ak' q.kids.length ck')] w (.bool (allN q.tags.length (fun t => decide (tagN p.tags (q.tags.getD t 0) < p.tags.length)))) := by
 have eb := Ext_alloc (.cells #[.string q.nm, .int .i64 q.kind, .int .i64 q.size, .bool q.little, .slice Ab' q.bytes.length cb', .slice An' q.names.length cn', .slice At' q.tags.length ct', .slice Ak' q.kids.length ck'] 51) (Ext_alloc (.cells #[.string p.nm, .int .i64 p.kind, .int .i64 p.size, .bool p.little, .slice Ab p.bytes.length cb, .slice An p.names.length cn, .slice At p.tags.length ct, .slice Ak p.kids.length ck] 115) (Ext.refl w))
 have BX := fun w' (e : Ext ((w.alloc (.cells #[.string p.nm, .int .i64 p.kind, .int .i64 p.size, .bool p.little, .slice Ab p.bytes.length cb, .slice An p.names.length cn, .slice At p.tags.length ct, .slice Ak p.kids.length ck] 115)).alloc (.cells #[.string q.nm, .int .i64 q.kind, .int .i64 q.size, .bool q.little, .slice Ab' q.bytes.length cb', .slice An' q.names.length cn', .slice At' q.tags.length ct', .slice Ak' q.kids.length ck'] 51)) w') => boxed2 e
 have B0 := fun w' e => (BX w' e).1
 have B1 := fun w' e => (BX w' e).2.1
 clear BX
 have hlt' := h'.t.len
 have C := Lib.hid (fun t w' (e : Ext w w') => iTagIx_c p Ab cb An cn At ct Ak ck t w' (h.ext e))
 have HE := Lib.hid (rfl : allN q.tags.length (fun t => decide (tagN p.tags (q.tags.getD t 0) < p.tags.length)) = allN q.tags.length (fun t => decide (tagN p.tags (q.tags.getD t 0) < p.tags.length)))
 generalize hZ : allN q.tags.length (fun t => decide (tagN p.tags (q.tags.getD t 0) < p.tags.length)) = Z at *
 have HZ := Lib.hid hZ; clear hZ HE
 unfold vrule at *
 obtain ⟨W2, hW2⟩ : ∃ W2, W2 = ((w.alloc (.cells #[.string p.nm, .int .i64 p.kind, .int .i64 p.size, .bool p.little, .slice Ab p.bytes.length cb, .slice An p.names.length cn, .slice At p.tags.length ct, .slice Ak p.kids.length ck] 115)).alloc (.cells #[.string q.nm, .int .i64 q.kind, .int .i64 q.size, .bool q.little, .slice Ab' q.bytes.length cb', .slice An' q.names.length cn', .slice At' q.tags.length ct', .slice Ak' q.kids.length ck'] 51)) := ⟨_, rfl⟩
 go_enter Tryz.func126, Tryz.ntmps126
 go_wp2
 rw [← hW2] at B0 B1 eb ⊢
 clear hW2
 go_loopw [10] (fun ix wr => ∃ k : Nat, k ≤ q.tags.length ∧ ix = .int .i64 k ∧ Hid (∀ t, t < k → decide (tagN p.tags (q.tags.getD t 0) < p.tags.length) = true) ∧ Ext W2 wr) (fun ix _ => q.tags.length - (intOf ix).toNat)
 case atStart => exact ⟨0, by omega, rfl, (fun j hj => by omega), Ext.refl _⟩
 case round =>
  obtain ⟨k, hk, rfl, hn, he⟩ := hrel
  by_cases hlt : k < q.tags.length
  ·obtain ⟨b, off, hA, hb, hcl⟩ := (h'.t.ext eb).at k hlt
   subst hA
   have hg : q.tags.getD k 0 = q.tags[k] := by simp [hlt]
   have YES : Hid (decide (tagN p.tags (q.tags.getD k 0) < p.tags.length) = true → ∀ t, t < k + 1 → decide (tagN p.tags (q.tags.getD t 0) < p.tags.length) = true) := fun h => upTo (f := fun t => decide (tagN p.tags (q.tags.getD t 0) < p.tags.length)) hn.out h
   have NO : Hid (decide (tagN p.tags (q.tags.getD k 0) < p.tags.length) = false → Z = false) := fun h => HZ.out.symm.trans (allN_no (f := fun t => decide (tagN p.tags (q.tags.getD t 0) < p.tags.length)) hlt h)
   rw [hg] at YES NO
   clear hg hn HZ
   generalize q.tags[k] = x at *
   have C1 := Lib.hid (C.out x)
   unfold tagI at C1
   by_cases hT : tagN p.tags x < p.tags.length
   ·rw [if_pos hT] at C1
    have HF := Lib.hid (YES.out (decide_eq_true hT)); clear YES NO hT
    generalize tagN p.tags x = y at *
    have dy : decide ((y : Int) < 0) = false := decide_eq_false (by omega)
    go_wp2_with fail
    refine (C1.out _ (eb.trans he)).mono ?_; rintro _ w1 ⟨rfl, s1⟩
    go_wp2
    go_roundw
    case rel => exact ⟨k + 1, by omega, by go_num, HF, he.trans s1⟩
    case measure => simp [intOf]; omega
   ·rw [if_neg hT] at C1
    have HF := Lib.hid (NO.out (decide_eq_false hT)); clear YES NO hT
    go_wp2_with fail
    refine (C1.out _ (eb.trans he)).mono ?_; rintro _ w1 ⟨rfl, s1⟩
    go_wp2
    go_ret
    exact ⟨ret_bool HF.out.symm, eb.trans (he.trans s1)⟩
  ·have HF : Hid (Z = true) := HZ.out.symm.trans (allN_yes fun t ht => hn.out t (by omega))
   go_wp2
   go_ret
   exact ⟨ret_bool HF.out.symm, eb.trans he⟩
end Go.Proofs.YtpmcofmdjckijaaGreatDoor
namespace Go.Proofs
open Go.Shelf Go.RowKit Go.Sort
def Tryz.laysM171_ren : Go.Shelf.Ren := ⟨fun | 171 => 64 | 243 => 81 | 246 => 92 | 283 => 97 | 284 => 98 | 285 => 99 | 286 => 100 | 129 => 103 | 317 => 102 | 318 => 104 | 319 => 105 | 320 => 106 | 337 => 107 | 338 => 108 | n => n, fun | 3 => 3 | 9 => 9 | 2 => 2 | 4 => 4 | 171 => 121 | 0 => 0 | 53 => 122 | 37 => 22 | 5 => 5 | 173 => 125 | 212 => 128 | 51 => 129 | 20 => 20 | 213 => 130 | 46 => 103 | 232 => 133 | 233 => 134 | n => n, fun | 17 => 0 | 18 => 1 | 19 => 2 | n => n⟩
theorem Tryz.laysM171 : Go.Proofs.LaysM.n171 Tryz.prog Tryz.laysM171_ren := {
 mixed := by kernel_rfl
 f129 := Tryz.func103.trans (congrArg some (by kernel_rfl))
 f171 := Tryz.func64.trans (congrArg some (by kernel_rfl))
 f243 := Tryz.func81.trans (congrArg some (by kernel_rfl))
 f246 := Tryz.func92.trans (congrArg some (by kernel_rfl))
 f283 := Tryz.func97.trans (congrArg some (by kernel_rfl))
 f284 := Tryz.func98.trans (congrArg some (by kernel_rfl))
 f285 := Tryz.func99.trans (congrArg some (by kernel_rfl))
 f286 := Tryz.func100.trans (congrArg some (by kernel_rfl))
 f317 := Tryz.func102.trans (congrArg some (by kernel_rfl))
 f318 := Tryz.func104.trans (congrArg some (by kernel_rfl))
 f319 := Tryz.func105.trans (congrArg some (by kernel_rfl))
 f320 := Tryz.func106.trans (congrArg some (by kernel_rfl))
 f337 := Tryz.func107.trans (congrArg some (by kernel_rfl))
 f338 := Tryz.func108.trans (congrArg some (by kernel_rfl))
 t0 := Tryz.underlying0
 a0 := Tryz.isAgg0
 z0 := Tryz.sizeOf0
 v0 := Tryz.zeroValue0
 t2 := Tryz.underlying2
 a2 := Tryz.isAgg2
 z2 := Tryz.sizeOf2
 v2 := Tryz.zeroValue2
 t3 := Tryz.underlying3
 a3 := Tryz.isAgg3
 z3 := Tryz.sizeOf3
 v3 := Tryz.zeroValue3
 t4 := Tryz.underlying4
 a4 := Tryz.isAgg4
 z4 := Tryz.sizeOf4
 v4 := Tryz.zeroValue4
 t5 := Tryz.underlying5
 a5 := Tryz.isAgg5
 z5 := Tryz.sizeOf5
 v5 := Tryz.zeroValue5
 t9 := Tryz.underlying9
 a9 := Tryz.isAgg9
 z9 := Tryz.sizeOf9
 v9 := Tryz.zeroValue9
 t20 := Tryz.underlying20
 a20 := Tryz.isAgg20
 z20 := Tryz.sizeOf20
 v20 := Tryz.zeroValue20
 t37 := Tryz.underlying22
 a37 := Tryz.isAgg22
 z37 := Tryz.sizeOf22
 v37 := Tryz.zeroValue22
 t46 := Tryz.underlying103
 a46 := Tryz.isAgg103
 z46 := Tryz.sizeOf103
 v46 := Tryz.zeroValue103
 t51 := Tryz.underlying129
 a51 := Tryz.isAgg129
 z51 := Tryz.sizeOf129
 v51 := Tryz.zeroValue129
 t53 := Tryz.underlying122
 a53 := Tryz.isAgg122
 z53 := Tryz.sizeOf122
 v53 := Tryz.zeroValue122
 t171 := Tryz.underlying121
 a171 := Tryz.isAgg121
 z171 := Tryz.sizeOf121
 v171 := Tryz.zeroValue121
 t173 := Tryz.underlying125
 a173 := Tryz.isAgg125
 z173 := Tryz.sizeOf125
 v173 := Tryz.zeroValue125
 t212 := Tryz.underlying128
 a212 := Tryz.isAgg128
 z212 := Tryz.sizeOf128
 v212 := Tryz.zeroValue128
 t213 := Tryz.underlying130
 a213 := Tryz.isAgg130
 z213 := Tryz.sizeOf130
 t232 := Tryz.underlying133
 a232 := Tryz.isAgg133
 z232 := Tryz.sizeOf133
 v232 := Tryz.zeroValue133
 t233 := Tryz.underlying134
 a233 := Tryz.isAgg134
 z233 := Tryz.sizeOf134
 v233 := Tryz.zeroValue134
 g17 := by kernel_rfl
 g18 := by kernel_rfl
 g19 := by kernel_rfl
 i0 := by kernel_rfl
 i2 := by kernel_rfl
 i3 := by kernel_rfl
 i4 := by kernel_rfl
 i5 := by kernel_rfl
 i9 := by kernel_rfl
 i20 := by kernel_rfl
 i37 := by kernel_rfl
 i46 := by kernel_rfl
 i51 := by kernel_rfl
 i53 := by kernel_rfl
 i171 := by kernel_rfl
 i173 := by kernel_rfl
 i212 := by kernel_rfl
 i232 := by kernel_rfl
 i233 := by kernel_rfl
 m17 := by kernel_rfl
 m18 := by kernel_rfl
 m19 := by kernel_rfl }
theorem Tryz.strconv_Itoa (n : Int) (h0 : -9223372036854775808 ≤ n) (h1 : n ≤ 9223372036854775807) (w : World) (htab : Lib.TabIs Tryz.prog w "internal/strconv.uint64pow10" .u64 Lib.pow10Tab) :
 Calls Tryz.prog 64 #[.int .i64 n] w fun e w' => e = .returned (.string ⟨(Lib.itoa n).toArray⟩) ∧ ∃ k os, w' = grow (w.drewN k) os := Any.strconv_Itoa Tryz.laysM171 n h0 h1 w htab
end Go.Proofs
namespace Go.Proofs.YtpmcofmdjckijaaGreatDoor
open Go.RowKit Go.Sort
def Tab (w : World) : Prop := Lib.TabIs Tryz.prog w "internal/strconv.uint64pow10" .u64 Lib.pow10Tab
theorem Tab.ext {w w' : World} (h : Tab w) (e : Ext w w') : Tab w' := by
 unfold Tab Lib.TabIs World.var? at *
 rw [Option.bind_eq_some_iff] at *
 obtain ⟨g, hg, hc⟩ := h
 refine ⟨g, hg, ?_⟩
 rcases Nat.lt_or_ge g w.heap.size with hlt | hge
 ·rw [Below.block e g hlt]; exact hc
 ·rw [Array.getElem?_eq_none hge] at hc; simp at hc
theorem i64_of_wf {n : Int} (h : (Lit.int .i64 n).wf = true) : -9223372036854775808 ≤ n ∧ n ≤ 9223372036854775807 := by
 have h' : (decide (IntKind.i64.min ≤ n) && decide (n ≤ IntKind.i64.max)) = true := h
 rw [Bool.and_eq_true, decide_eq_true_eq, decide_eq_true_eq] at h'
 have e1 : IntKind.i64.min = -9223372036854775808 := by decide
 have e2 : IntKind.i64.max = 9223372036854775807 := by decide
 omega
theorem iFormatInt_c (n : Int) (w : World) (hT : Tab w) (h0 : -9223372036854775808 ≤ n) (h1 : n ≤ 9223372036854775807) :
 Gives Tryz.prog 38 #[.int .i64 n] w (.string (itoaB n)) := by
 have C := Lib.hid (Tryz.strconv_Itoa n h0 h1 w hT)
 unfold itoaB
 generalize (Lib.itoa n) = l at *
 go_enter Tryz.func38, Tryz.ntmps38
 go_wp2_with fail
 refine C.out.mono ?_; rintro _ w1 ⟨rfl, k, os, hw⟩
 have he : Ext w w1 := by rw [hw]; exact Lib.below_grow _ w (Nat.le_refl _) k os
 clear hw
 go_wp2
 go_ret
 exact ⟨rfl, he⟩
section
variable {P : Program} {ops : Array Oper} {rest : List Oper} {o : Oper} {a : Act} {Q : Exit → Act → World → Prop} {K : Act → World → Prop} {E : Prop}
theorem step_appNB (hgd : o.guard = none) (s x : Operand) (t : TypeId) (ho : o.op = .call { callee := .builtin .append, args := #[s, x], argTypes := #[t, t] })
 {e : TypeId} {bytes : Nat} {z : Value} (hE : Elem P t e 1 bytes z) (hby : 1 ≤ bytes) (w0 w W : World) {α : Type} (f : α → Value) (hf : ∀ x, (f x).oneCell' = true) (v : Value) (hs : a.eval s = v) (m c : Nat) (hx : a.eval x = .slice (some ⟨w.heap.size, 0, none⟩) m c)
 (l ys : List α) (cs : Array Value) (hcs : cs = (ys.map f).toArray) (hW : W = w.alloc (.cells cs e)) (hown : OwnL f e w0 w v l) (he : Ext w0 w) (hm : m = ys.length)
 (hb : (l.length + ys.length) * bytes ≤ 140737488355328)
 (h : ∀ v' w', OwnL f e w0 w' v' (l ++ ys) → Ext w0 w' → W.grownBy w' v.ownBlock → (v'.ownBlock = v.ownBlock ∨ v'.ownBlock = some W.heap.size) → K (a.put o.dst v') w') :
 if Region.wanted o (yielded ops a.tmps) = true then Oper.wp P o a W K Q else E := by
 subst hW; subst hcs; subst hm
 have hw : Region.wanted o (yielded ops a.tmps) = true := by simp [Region.wanted, hgd]
 rw [if_pos hw]
 obtain ⟨i0, hi0, hz0, hz1, hz2⟩ := info_parts hE.hi
 have hown2 := hown.ext (Ext_alloc (.cells (ys.map f).toArray e) (Ext.refl w))
 have he2 := Ext_alloc (.cells (ys.map f).toArray e) he
 obtain ⟨v', w', hr, h2, h3, h4, h5⟩ := run_append_own_at (P := P) _ w0.heap.size t o.type e i0 z 1 bytes hE.ht hi0 hz0 hz1 hz2 hE.hz hE.hs v l.length (l.map f) hown2 ⟨w.heap.size, 0, none⟩ ys.length c (ys.map f) (by simp)
  (fun j u hu => by rw [World.cell?_alloc_at']; exact hu) (fun u hu => by obtain ⟨x, _, rfl⟩ := List.mem_map.1 hu; exact hf x) (by have := Nat.mul_le_mul_left (l.length + ys.length) hby; simp only [maxLen]; omega) hb he2.size
 unfold Oper.wp execOp
 simp only [ho, resolve, invoke, builtin, Sem.run_bind, Sem.run_pure, Result.andThen_ok, List.map_toArray, List.map_cons, List.map_nil, hs, hx, hr]
 exact h v' w' (by simpa [OwnL] using h2) (he2.grown h3 (fun k hk => (World.ownsRow.lt hown2 k hk).1)) h3 h5
end
theorem own_ne {v v' : Value} {g n : Nat} (h : v'.ownBlock = v.ownBlock ∨ v'.ownBlock = some n) (h1 : v.ownBlock ≠ some g) (h2 : g < n) : v'.ownBlock ≠ some g := by
 intro hh
 rcases h with h | h
 ·exact h1 (h.symm.trans hh)
 ·rw [h] at hh; injection hh with hh; omega
theorem own_eq {α : Type} {f : α → Value} {e : TypeId} {w0 w : World} {v : Value} {l l' : List α} (h : OwnL f e w0 w v l) (he : l = l') : OwnL f e w0 w v l' := he ▸ h
def newT (x y : DRule) (k : Nat) : List ByteArray := ((y.tags.take k).filter (fun t => !decide (tagN x.tags t < x.tags.length))).map (fun t => y.nm ++ ⟨#[58]⟩ ++ itoaB t)
theorem newT_yes {x y : DRule} {k : Nat} (hk : k < y.tags.length) (h : ¬ tagN x.tags y.tags[k] < x.tags.length) : newT x y (k + 1) = newT x y k ++ [y.nm ++ ⟨#[58]⟩ ++ itoaB y.tags[k]] := by
 unfold newT; rw [List.take_succ_eq_append_getElem hk, List.filter_append]; simp [h]
theorem newT_no {x y : DRule} {k : Nat} (hk : k < y.tags.length) (h : tagN x.tags y.tags[k] < x.tags.length) : newT x y (k + 1) = newT x y k := by
 unfold newT; rw [List.take_succ_eq_append_getElem hk, List.filter_append]; simp [h]
theorem newT_zero (x y : DRule) : newT x y 0 = [] := rfl
theorem newT_len (x y : DRule) (k : Nat) : (newT x y k).length ≤ k := by
 unfold newT; rw [List.length_map]
 have := List.length_filter_le (fun t => !decide (tagN x.tags t < x.tags.length)) (y.tags.take k)
 rw [List.length_take] at this; omega
def addT1 (a : List DRule) (y : DRule) : List ByteArray :=
 if y.kind = 7 then (if 0 ≤ findR a y.nm then (match a[(findR a y.nm).toNat]? with | some x => if x.kind = 7 then newT x y y.tags.length else [] | none => []) else []) else []
theorem addT1_len (a : List DRule) (y : DRule) : (addT1 a y).length ≤ y.tags.length := by
 unfold addT1
 split
 ·split
  ·split
   ·split
    ·exact newT_len _ _ _
    ·simp
   ·simp
  ·simp
 ·simp
def addTk (a b : List DRule) (k : Nat) : List ByteArray := (b.take k).flatMap (addT1 a)
theorem addTk_succ {a b : List DRule} {k : Nat} (hk : k < b.length) : addTk a b (k + 1) = addTk a b k ++ addT1 a b[k] := by unfold addTk; rw [List.take_succ_eq_append_getElem hk, List.flatMap_append, List.flatMap_cons, List.flatMap_nil, List.append_nil]
theorem flat_len (a b : List DRule) : (b.flatMap (addT1 a)).length ≤ (b.map szRl).sum := by
 induction b with
 | nil => simp
 | cons y s ih => have := addT1_len a y; simp only [List.flatMap_cons, List.length_append, List.map_cons, List.sum_cons]; unfold szRl at *; omega
theorem addTk_len (a b : List DRule) (k : Nat) : (addTk a b k).length ≤ szD b := by
 have h1 := flat_len a (b.take k)
 have h2 := sum_split szRl b k
 unfold addTk szD; omega
def addT (a b : List DRule) : List ByteArray := if descOk a && descOk b then addTk a b b.length else []
theorem addT_len {a b : List DRule} {n : Nat} (h : szD b ≤ n) : (addT a b).length ≤ n := by
 unfold addT; split
 ·have := addTk_len a b b.length; omega
 ·simp
theorem addT1_kind {a : List DRule} {y : DRule} (h : ¬ y.kind = 7) : addT1 a y = [] := if_neg h
theorem addT1_none {a : List DRule} {y : DRule} (h : findR a y.nm < 0) : addT1 a y = [] := by unfold addT1; rw [if_neg (by omega : ¬ 0 ≤ findR a y.nm)]; split <;> rfl
theorem addT1_other {a : List DRule} {y : DRule} {k : Nat} (hf : findR a y.nm = (k : Int)) (hk : k < a.length) (h : ¬ a[k].kind = 7) : addT1 a y = [] := by
 unfold addT1; rw [hf, Int.toNat_natCast, List.getElem?_eq_getElem hk]; dsimp only; rw [if_neg h]; split <;> (try split) <;> rfl
theorem addT1_some {a : List DRule} {y : DRule} {k : Nat} (h7 : y.kind = 7) (hf : findR a y.nm = (k : Int)) (hk : k < a.length) (h : a[k].kind = 7) : addT1 a y = newT a[k] y y.tags.length := by
 unfold addT1; rw [if_pos h7, hf, Int.toNat_natCast, List.getElem?_eq_getElem hk]; dsimp only; rw [if_pos h, if_pos (by omega)]
theorem nm_le {b : List DRule} {y : DRule} (hm : y ∈ b) : y.nm.size ≤ szD b ∧ y.tags.length ≤ szD b := by
 have := sum_mem szRl b y hm
 unfold szD; unfold szRl at *; omega
theorem iAdded_c (A A' : Option Addr) (a b : List DRule) (c c' : Nat) (w : World) (ha : RdD w A a c) (hb : RdD w A' b c') (hsa : ShortD a) (hwa : WfD a) (hsb : ShortD b) (hwb : WfD b) (hL : szD b ≤ 1048576) (hT : Tab w) :
 Calls Tryz.prog 14 #[vdesc (.slice A a.length c), vdesc (.slice A' b.length c')] w fun e w' => ∃ v, e = .returned v ∧ OwnL vstr 9 w w' v (addT a b) ∧ Ext w w' := by
 have hl := ha.len
 have hl' := hb.len
 have hbl : b.length ≤ 1048576 := by unfold szD at hL; omega
 have eb := Ext_alloc (.cells #[.slice A' b.length c'] 26) (Ext_alloc (.cells #[.slice A a.length c] 26) (Ext.refl w))
 have BX := fun w' (e : Ext ((w.alloc (.cells #[.slice A a.length c] 26)).alloc (.cells #[.slice A' b.length c'] 26)) w') => boxed2 e
 have B0 := fun w' e => (BX w' e).1
 have B1 := fun w' e => (BX w' e).2.1
 clear BX
 have CA := Lib.hid (fun w h => iValidDesc_c A a c w h hsa hwa)
 have CB := Lib.hid (fun w h => iValidDesc_c A' b c' w h hsb hwb)
 have CF := Lib.hid (fun s w h => iFind_c A a c s w h)
 unfold vdesc at *
 obtain ⟨W0, hW0⟩ : ∃ W0, W0 = ((w.alloc (.cells #[.slice A a.length c] 26)).alloc (.cells #[.slice A' b.length c'] 26)) := ⟨_, rfl⟩
 rw [← hW0] at eb B0 B1
 have hs0 : W0.heap.size = w.heap.size + 1 + 1 := by rw [hW0]; simp
 have OE := OwnL.empty (f := vstr) (e := 9) (Ext.refl W0)
 rw [hs0] at OE
 have HOE := Lib.hid OE; have HW0 := Lib.hid hW0
 have x0 := Ext_alloc (.cells #[] 9) (Ext.refl W0)
 have HA := Lib.hid (ha.ext eb); have HB := Lib.hid (hb.ext eb)
 have HWA := Lib.hid hwa; have HWB := Lib.hid hwb
 have HT := Lib.hid (hT.ext eb)
 clear OE hW0 hs0 ha hb hwa hwb hsa hsb hT
 by_cases hz : descOk a = false ∨ descOk b = false
 ·have HE : Hid (addT a b = []) := by show _ = _; unfold addT; rcases hz with h | h <;> simp [h]
  go_enter Tryz.func14, Tryz.ntmps14
  go_wp2_with fail
  rw [← HW0.out]
  refine (CA.out _ (HA.out.ext x0)).mono ?_; rintro _ w1 ⟨rfl, s1⟩
  have e1 := x0.trans s1
  cases hda : descOk a
  ·go_wp2
   go_ret
   exact ⟨_, rfl, by rw [HE.out]; exact (HOE.out.ext s1).down eb.size, eb.trans e1⟩
  ·have hdb : descOk b = false := by rcases hz with h | h <;> simp_all
   rw [hdb] at CB
   go_wp2_with fail
   refine (CB.out _ (HB.out.ext e1)).mono ?_; rintro _ w2 ⟨rfl, s2⟩
   go_wp2
   go_ret
   exact ⟨_, rfl, by rw [HE.out]; exact ((HOE.out.ext s1).ext s2).down eb.size, eb.trans (e1.trans s2)⟩
 have hda : descOk a = true := by cases h : descOk a <;> simp_all
 have hdb : descOk b = true := by cases h : descOk b <;> simp_all
 have HE : Hid (addT a b = addTk a b b.length) := by show _ = _; unfold addT; rw [hda, hdb]; rfl
 have HRF : Hid (∀ j (hj : j < a.length), a[j].kind = 7 → a[j].kids.length = a[j].tags.length + 1) := fun j hj h7 => ((ruleFacts hda j hj).cho h7).1
 have HKI : Hid (∀ j (hj : j < a.length) t (ht : t < a[j].kids.length), a[j].kids[t] = (kd a[j] t : Int)) := fun j hj t ht => kd_int hda j hj t ht
 have HFL : Hid (∀ s, -1 ≤ findR a s ∧ findR a s < a.length ∨ findR a s = -1) := fun s => findR_lt a s
 rw [hda] at CA; rw [hdb] at CB
 clear hz hda hdb
 go_enter Tryz.func14, Tryz.ntmps14
 go_wp2_with fail
 rw [← HW0.out]
 refine (CA.out _ (HA.out.ext x0)).mono ?_; rintro _ w1 ⟨rfl, s1⟩
 have e1 := x0.trans s1
 go_wp2_with fail
 refine (CB.out _ (HB.out.ext e1)).mono ?_; rintro _ w2 ⟨rfl, s2⟩
 have e2 := e1.trans s2
 have HO2 := Lib.hid ((HOE.out.ext s1).ext s2)
 clear HOE s1 s2 e1 x0 CA CB
 go_wp2
 go_loopw [24, 5] (fun i v wr => ∃ k : Nat, k ≤ b.length ∧ i = .int .i64 k ∧ Hid (OwnL vstr 9 W0 wr v (addTk a b k)) ∧ Ext W0 wr) (fun i _ _ => b.length - (intOf i).toNat)
 case atStart => exact ⟨0, by omega, rfl, HO2.out, e2⟩
 case round =>
  clear HO2 e2
  obtain ⟨k, hk, rfl, ho, he⟩ := hrel
  by_cases hlt : k < b.length
  ·obtain ⟨bb, ob, Ab, cb, An, cn, At, ct, Ak, ck, hA', hbb, hSy, hRy⟩ := HB.out.at k hlt
   subst hA'
   have HSU : Hid (addTk a b (k + 1) = addTk a b k ++ addT1 a b[k]) := addTk_succ hlt
   have HLL : Hid ((addTk a b (k + 1)).length ≤ 1048576) := Nat.le_trans (addTk_len a b (k+1)) hL
   obtain ⟨hnm, htl⟩ := nm_le (List.getElem_mem hlt)
   replace hnm := Nat.le_trans hnm hL; replace htl := Nat.le_trans htl hL
   have HWY : Hid (WfR b[k]) := HWB.out b[k] (List.getElem_mem hlt)
   generalize b[k] = y at *
   have b1 : (k : Int) < (b.length : Int) := by omega
   have d0 : decide (k < b.length) = true := decide_eq_true (by omega)
   have hr := hRy.ext he
   have HST := Lib.hid hSy.t
   clear hRy hSy
   have e2 := he
   have hr2 := hr
   have HO2 := ho
   obtain ⟨w2, hw2⟩ : ∃ w2, w2 = wr := ⟨_, rfl⟩
   rw [← hw2] at e2 hr2 HO2
   rw [← hw2]
   clear he hr ho hw2
   obtain ⟨l0, l1, l2, l3, l4, l5, l6, l7⟩ := hr2
   have BXR := Lib.hid (Box.new w2 #[.string y.nm, .int .i64 y.kind, .int .i64 y.size, .bool y.little, .slice Ab y.bytes.length cb, .slice An y.names.length cn, .slice At y.tags.length ct, .slice Ak y.kids.length ck] 51)
   have x3 := Ext_alloc (.cells #[.string y.nm, .int .i64 y.kind, .int .i64 y.size, .bool y.little, .slice Ab y.bytes.length cb, .slice An y.names.length cn, .slice At y.tags.length ct, .slice Ak y.kids.length ck] 51) (Ext.refl w2)
   have hbx := fun w' (e : Ext (w2.alloc (.cells #[.string y.nm, .int .i64 y.kind, .int .i64 y.size, .bool y.little, .slice Ab y.bytes.length cb, .slice An y.names.length cn, .slice At y.tags.length ct, .slice Ak y.kids.length ck] 51)) w') => boxed e
   have e3 := e2.trans x3
   have HNE := Lib.hid (HO2.out.far (.inr (Nat.le_refl _)))
   have HO3 := Lib.hid (HO2.out.ext x3)
   clear  HO2
   go_wp2_with fail
   refine (CF.out _ _ (HA.out.ext e3)).mono ?_; rintro _ w4 ⟨rfl, s4⟩
   have e4 := e3.trans s4
   have HO4 := Lib.hid (HO3.out.ext s4)
   have HB4 := Lib.hid (BXR.out.ext s4)
   have hb4 := HB4.out.cell
   have hfl := HFL.out y.nm
   have HN1 := Lib.hid (fun h => addT1_kind (a := a) (y := y) h); have HN2 := Lib.hid (fun h => addT1_none (a := a) (y := y) h)
   have HN3 := Lib.hid (fun k hf hk h => addT1_other (a := a) (y := y) (k := k) hf hk h); have HN4 := Lib.hid (fun k h7 hf hk h => addT1_some (a := a) (y := y) (k := k) h7 hf hk h)
   have HNX := Lib.hid (fun (h : addT1 a y = []) => own_eq HO4.out (show addTk a b k = addTk a b (k+1) by rw [HSU.out, h, List.append_nil]))
   clear HO3 BXR l0 l1 l2 l3 l4 l5 l6 l7 hbx x3 s4 e3 e2
   obtain ⟨f, hf⟩ : ∃ f, findR a y.nm = f := ⟨_, rfl⟩
   rw [hf] at hfl HN2 HN3 HN4 ⊢
   clear hf
   by_cases h7 : y.kind = 7
   ·have k7 : (y.kind != 7) = false := by simpa using h7
    by_cases hf0 : f < 0
    ·have HO5 := Lib.hid (HNX.out (HN2.out hf0))
     have d1 : decide (f < 0) = true := by simpa using hf0
     clear HO4 HNX HN1 HN2 HN3 HN4
     go_wp2
     go_roundw
     case rel => exact ⟨k + 1, by omega, by go_num, HO5, e4⟩
     case measure => simp [intOf]; omega
    ·obtain ⟨j, rfl⟩ : ∃ j : Nat, f = (j : Int) := ⟨f.toNat, by omega⟩
     have hj : j < a.length := by omega
     obtain ⟨ba, oa, Ax, cx, Bn, cn2, Bt, ct2, Bk, ck2, hAa, hba, hSx, hRx⟩ := HA.out.at j hj
     subst hAa
     have hrx := hRx.ext e4
     have HKX := Lib.hid (HKI.out j hj); have HLX := Lib.hid (HRF.out j hj)
     have HSX := Lib.hid hSx
     have HN3 := Lib.hid (HN3.out j rfl hj); have HN4 := Lib.hid (HN4.out j h7 rfl hj)
     have hjl : (j : Int) < (a.length : Int) := by omega
     generalize a[j] = x at *
     have d1 : decide ((j : Int) < 0) = false := by simp
     by_cases hx7 : ¬ x.kind = 7
     ·have HO5 := Lib.hid (HNX.out (HN3.out hx7))
      have kx7 : (x.kind != 7) = true := by simpa using hx7
      obtain ⟨m0, m1, m2, m3, m4, m5, m6, m7⟩ := hrx
      clear HO4 HNX HN1 HN2 HN3 HN4 m0 m2 m3 m4 m5 m6 m7 hRx hSx
      go_wp2
      go_roundw
      case rel => exact ⟨k + 1, by omega, by go_num, HO5, e4⟩
      case measure => simp [intOf]; omega
     ·replace hx7 := Classical.not_not.1 hx7
      have kx7 : (x.kind != 7) = false := by simpa using hx7
      have HA1 : Hid (addTk a b k ++ newT x y y.tags.length = addTk a b (k + 1)) := by show _ = _; rw [HSU.out, HN4.out hx7]
      have hkl := HLX.out hx7
      have CI : Hid (∀ (t : Int) w', Ext W0 w' → Gives Tryz.prog 37 #[vrule x (.slice Ax x.bytes.length cx) (.slice Bn x.names.length cn2) (.slice Bt x.tags.length ct2) (.slice Bk x.kids.length ck2), .int .i64 t] w' (.int .i64 (tagI x.tags t))) :=
       fun t w' e => iTagIx_c x Ax cx Bn cn2 Bt ct2 Bk ck2 t w' (HSX.out.ext e)
      have HYT := Lib.hid (fun t (ht : t < y.tags.length) h => newT_yes (x := x) (y := y) ht h)
      have HNT := Lib.hid (fun t (ht : t < y.tags.length) h => newT_no (x := x) (y := y) ht h)
      have HZT : Hid (addTk a b k ++ newT x y 0 = addTk a b k) := by show _ = _; rw [newT_zero, List.append_nil]
      have HLT : Hid (∀ t, (newT x y t).length ≤ t) := fun t => newT_len x y t
      have HLK : Hid ((addTk a b k).length ≤ 1048576) := by show _ ≤ _; have := HLL.out; rw [← HA1.out, List.length_append] at this; omega
      generalize addTk a b k = L0 at *
      obtain ⟨m0, m1, m2, m3, m4, m5, m6, m7⟩ := hRx
      have M : Hid (RuleAt W0 ba (oa + j * 8) x (.slice Ax x.bytes.length cx) (.slice Bn x.names.length cn2) (.slice Bt x.tags.length ct2) (.slice Bk x.kids.length ck2)) := ⟨m0, m1, m2, m3, m4, m5, m6, m7⟩
      have hm1 := m1 _ e4
      clear HNX HN1 HN2 HN3 HN4 HSU hSx hkl hfl hrx m0 m1 m2 m3 m4 m5 m6 m7
      unfold vrule at CI
      have HX7 := Lib.hid hx7; have HY7 := Lib.hid h7
      clear hx7 h7
      go_wp2
      go_loopw [51, 5] (fun ti v wq => ∃ t : Nat, t ≤ y.tags.length ∧ ti = .int .i64 t ∧ Hid (OwnL vstr 9 W0 wq v (L0 ++ newT x y t)) ∧ Hid (v.ownBlock ≠ some w2.heap.size) ∧ Hid (Box wq w2.heap.size #[.string y.nm, .int .i64 y.kind, .int .i64 y.size, .bool y.little, .slice Ab y.bytes.length cb, .slice An y.names.length cn, .slice At y.tags.length ct, .slice Ak y.kids.length ck] 51) ∧ Ext W0 wq ∧ w2.heap.size < wq.heap.size) (fun ti _ _ => y.tags.length - (intOf ti).toNat)
      case atStart => exact ⟨0, by omega, rfl, own_eq HO4.out HZT.out.symm, HNE, HB4, e4, HB4.out.lt⟩
      case round =>
       clear HO4 HZT HNE HB4 hb4 e4 hm1
       obtain ⟨t, ht, rfl, ho, hne, hbx, he, hsz⟩ := hrel
       have hbc := fun w' (e : Ext _ w') => (hbx.out.ext e).cell
       by_cases htl2 : t < y.tags.length
       ·obtain ⟨bt, ot, hAt, hbt, hct⟩ := HST.out.at t htl2
        subst hAt
        have HY := Lib.hid (HYT.out t htl2); have HNo := Lib.hid (HNT.out t htl2)
        have CIT := Lib.hid (CI.out y.tags[t])
        have hLq := HLT.out t
        have hL0 := HLK.out
        have b2 : (t : Int) < (y.tags.length : Int) := by omega
        have hwt : -9223372036854775808 ≤ y.tags[t] ∧ y.tags[t] ≤ 9223372036854775807 := i64_of_wf (HWY.out.tags _ (List.getElem_mem htl2))
        generalize y.tags[t] = z at *
        have hs2 := itoa_size z hwt.1 hwt.2
        have CFI : Hid (∀ w', Ext W0 w' → Gives Tryz.prog 38 #[.int .i64 z] w' (.string (itoaB z))) := fun w' e => iFormatInt_c z w' (HT.out.ext e) hwt.1 hwt.2
        generalize itoaB z = it at *
        obtain ⟨m0, m1, m2, m3, m4, m5, m6, m7⟩ := M.out
        by_cases hin : tagN x.tags z < x.tags.length
        ·have HO5 := Lib.hid (own_eq ho.out (congrArg (fun q => L0 ++ q) (HNo.out hin).symm))
         unfold tagI at CIT; rw [if_pos hin] at CIT
         generalize tagN x.tags z = q at *
         have dq : decide ((q : Int) < 0) = false := by simp
         clear HY HNo hs2 CFI hin ho
         go_wp2_with fail
         refine (CIT.out _ he).mono ?_; rintro _ w5 ⟨rfl, ew5⟩
         have hs5 := ew5.size
         have HO6 := Lib.hid (HO5.out.ext ew5); have HB6 := Lib.hid (hbx.out.ext ew5)
         clear HO5 hbc m0 m1 m2 m3 m4 m5 m6 m7
         go_wp2
         go_roundw
         case rel => exact ⟨t + 1, by omega, by go_num, HO6, hne, HB6, he.trans ew5, by omega⟩
         case measure => simp [intOf]; omega
        ·have HEQ : Hid (L0 ++ newT x y t ++ [y.nm ++ ⟨#[58]⟩ ++ it] = L0 ++ newT x y (t + 1)) := by show _ = _; rw [HY.out hin, List.append_assoc]
         unfold tagI at CIT; rw [if_neg hin] at CIT
         have HBD : Hid (((L0 ++ newT x y t).length + [y.nm ++ ⟨#[58]⟩ ++ it].length) * 16 ≤ 140737488355328) := by show _ ≤ _; rw [List.length_append]; simp only [List.length_cons, List.length_nil]; omega
         have z1 : (⟨#[58]⟩ : ByteArray).size ≤ 1 := by decide
         have n1 : ¬ 9223372036854775807 < y.nm.size + 1 := by omega
         have n2 : ¬ 9223372036854775807 < y.nm.size + 1 + it.size := by omega
         clear HY HNo hin hLq hL0
         generalize L0 ++ newT x y t = L at *
         go_wp2_with fail
         refine (CIT.out _ he).mono ?_; rintro _ w5 ⟨rfl, ew5⟩
         have hs5 := ew5.size
         have e5 := he.trans ew5
         have HO5 := Lib.hid (ho.out.ext ew5); have HB5 := Lib.hid (hbx.out.ext ew5)
         have hd := Ext_drew (Ext.refl w5)
         have hbc5 := fun w' (e : Ext w5 w') => (HB5.out.ext e).cell
         have HHD := Lib.hid (HO5.out.ext hd)
         clear hbc ho hbx CIT m0 m1 m2 m3 m4 m5 m6 m7
         go_wp2_with fail
         go_region_law (first
          | (go_simp; go_at_call 38; refine (CFI.out _ (e5.trans hd)).mono ?_; rintro _ w6 ⟨rfl, s6⟩; have x6 := hd.trans s6; have z6 := e5.trans x6; have HO6 := Lib.hid (HHD.out.ext s6))
          | (refine step_appNB rfl (.tmp 63) (.tmp 70) _ rfl E_str (by omega) W0 w6 _ vstr (fun _ => rfl) _ rfl 1 1 rfl L [y.nm ++ ⟨#[58]⟩ ++ it] _ rfl rfl HO6.out z6 rfl HBD.out ?_; intro v7 w7 ho7 he7 hg7 hv7; have HO7 := Lib.hid (own_eq ho7 HEQ.out); have HG7 := Lib.hid hg7; have HV7 := Lib.hid hv7; clear ho7 hg7 hv7))
         all_goals
          have hs6 := x6.size
          have hs7 := HG7.out.size
          rw [World.size_alloc] at hs7
          have HB7 := Lib.hid (Box.moved ((HB5.out.ext x6).ext (Ext_alloc _ (Ext.refl _))) HG7.out hne.out)
          have hne7 := Lib.hid (own_ne HV7.out hne.out (show w2.heap.size < (w6.alloc _).heap.size by rw [World.size_alloc]; omega))
          clear hbc5 HG7 HV7
          go_wp2
          go_roundw
          case rel => exact ⟨t + 1, by omega, by go_num, HO7, hne7, HB7, he7, by omega⟩
          case measure => simp [intOf]; omega
       ·obtain rfl : t = y.tags.length := by omega
        have HO5 := Lib.hid (own_eq ho.out HA1.out)
        have b2 : ¬ (y.tags.length : Int) < (y.tags.length : Int) := by omega
        go_wp2
        go_roundw
        case rel => exact ⟨k + 1, by omega, by go_num, HO5, he⟩
        case measure => simp [intOf]; omega
   ·have HO5 := Lib.hid (HNX.out (HN1.out h7))
    have k7 : (y.kind != 7) = true := by simpa using h7
    clear HO4 HNX HN1 HN2 HN3 HN4
    go_wp2
    go_roundw
    case rel => exact ⟨k + 1, by omega, by go_num, HO5, e4⟩
    case measure => simp [intOf]; omega
  ·obtain rfl : k = b.length := by omega
   have b1 : ¬ (b.length : Int) < (b.length : Int) := by omega
   go_wp2
   go_ret
   exact ⟨_, rfl, by rw [HE.out]; exact ho.out.down eb.size, eb.trans he⟩
end Go.Proofs.YtpmcofmdjckijaaGreatDoor
namespace Go.Proofs.YtpmcofmdjckijaaGreatDoor
structure WideD (a b : List DRule) : Prop where
 len : b.length = a.length
 wid : ∀ i (h1 : i < a.length) (h2 : i < b.length), WideR a[i] b[i] i
theorem WideD.refl (a : List DRule) : WideD a a := ⟨rfl, fun i _ _ => .inl rfl⟩
theorem WideR.same {x y : DRule} {j : Nat} (h : WideR x y j) : y.nm = x.nm ∧ y.kind = x.kind ∧ y.size = x.size ∧ y.little = x.little ∧ y.bytes = x.bytes ∧ y.names = x.names := by
 rcases h with rfl | ⟨_, _, z, k, _, _, rfl⟩
 ·exact ⟨rfl, rfl, rfl, rfl, rfl, rfl⟩
 ·exact ⟨rfl, rfl, rfl, rfl, rfl, rfl⟩
theorem WideR.tags {x y : DRule} {j : Nat} (h : WideR x y j) : ∃ s, y.tags = x.tags ++ s := by
 rcases h with rfl | ⟨_, _, z, k, _, _, rfl⟩
 ·exact ⟨[], by simp⟩
 ·exact ⟨_, rfl⟩
theorem WideR.kids {x y : DRule} {j : Nat} (h : WideR x y j) : ∃ s, y.kids = x.kids ++ s := by
 rcases h with rfl | ⟨_, _, z, k, _, _, rfl⟩
 ·exact ⟨[], by simp⟩
 ·exact ⟨_, rfl⟩
theorem WideR.kd {x y : DRule} {j : Nat} (h : WideR x y j) {t : Nat} (ht : t < x.kids.length) : kd y t = kd x t := by
 obtain ⟨s, hs⟩ := h.kids
 unfold Go.Proofs.YtpmcofmdjckijaaGreatDoor.kd
 rw [hs, List.getD_eq_getElem?_getD, List.getD_eq_getElem?_getD, List.getElem?_append_left ht]
theorem tagN_app {l s : List Int} {t : Int} (h : tagN l t < l.length) : tagN (l ++ s) t = tagN l t := by
 unfold tagN at *
 rw [List.findIdx_append, if_pos h]
theorem ext_wide {a b : List DRule} (ha : descOk a = true) (hw : WideD a b) : ∀ n i, i < n → i < a.length → ext a b i i = true := by
 intro n
 induction n with
 | zero => intro i h; omega
 | succ n ih =>
  intro i hin hi
  have hj : i < b.length := by rw [hw.len]; exact hi
  rw [ext_step ha i i hi hj]
  have hwr := hw.wid i hi hj
  obtain ⟨e0, e1, e2, e3, e4, e5⟩ := hwr.same
  have hk := kd_lt ha i hi
  have hf := ruleFacts ha i hi
  rw [Bool.and_eq_true]
  refine ⟨by unfold extHead; simp [e1, e2, e3, e4], ?_⟩
  unfold extTail
  split
  ·rename_i h7
   have hc := (hf.cho h7).1
   rw [Bool.and_eq_true]
   refine ⟨?_, allN_yes fun t ht => ?_⟩
   ·rw [hwr.kd (by omega)]; have := hk 0 (by omega); exact ih _ (by omega) (by omega)
   ·obtain ⟨s, hs⟩ := hwr.tags
    have hself := tagN_self ha i hi h7 t ht
    have htn : tagN b[i].tags (a[i].tags.getD t 0) = t := by rw [hs, tagN_app (by rw [hself]; exact ht), hself]
    unfold extTag
    rw [htn, hwr.kd (by omega)]
    have := hk (t + 1) (by omega)
    rw [ih _ (by omega) (by omega), decide_eq_true (by rw [hs, List.length_append]; omega)]; rfl
  ·rename_i h7
   have hy : b[i] = a[i] := by
    rcases hwr with h | ⟨h, _⟩
    ·exact h
    ·exact absurd h h7
   rw [hy, eqNms_refl]
   simp only [beq_self_eq_true, Bool.true_and]
   refine allN_yes fun t ht => ?_
   have := hk t ht
   exact ih _ (by omega) (by omega)
theorem extD_wide {a b : List DRule} (ha : descOk a = true) (hb : descOk b = true) (hw : WideD a b) : extD a b = true := by
 have h0 := descOk_len ha
 have hl := hw.len
 unfold extD extRule
 rw [knownB_root ha, knownB_root hb]
 have : ((b.length : Int) - 1).toNat = ((a.length : Int) - 1).toNat := by omega
 rw [this, ext_wide ha hw (((a.length : Int) - 1).toNat + 1) _ (by omega) (by omega)]; rfl
theorem limD_wide {a b : List DRule} (hw : WideD a b) (z : Int) : limD b z = limD a z := by
 unfold limD
 split
 ·rcases Nat.lt_or_ge z.toNat a.length with h | h
  ·have h2 : z.toNat < b.length := by rw [hw.len]; exact h
   rw [List.getElem?_eq_getElem h, List.getElem?_eq_getElem h2]
   obtain ⟨_, e1, e2, _⟩ := (hw.wid _ h h2).same
   dsimp only
   unfold limR
   rw [e1, e2]
  ·rw [List.getElem?_eq_none h, List.getElem?_eq_none (by rw [hw.len]; exact h)]
 ·rfl
theorem kindOk_lim {a b : List DRule} (h : ∀ z, limD b z = limD a z) (r : DRule) : kindOk b r = kindOk a r := by
 unfold kindOk choOk
 simp only [h]
theorem names_inj {a : List DRule} (h : descOk a = true) {i j : Nat} (hi : i < a.length) (hj : j < a.length) (e : a[i].nm = a[j].nm) : i = j := by
 have key : ∀ i j (hi : i < a.length) (hj : j < a.length), i < j → a[i].nm ≠ a[j].nm := by
  intro i j hi hj hij
  unfold descOk at h
  rw [Bool.and_eq_true] at h
  have h1 := allN_at h.2 hj
  unfold ruleOk at h1
  rw [List.getElem?_eq_getElem hj] at h1
  simp only [Bool.and_eq_true] at h1
  have h2 := allN_at h1.1.1.2 hij
  unfold freshNm at h2
  rw [List.getElem?_eq_getElem hi] at h2
  intro e
  dsimp only at h2
  rw [e] at h2
  simp at h2
 rcases (by omega : i < j ∨ j < i ∨ i = j) with h1 | h1 | h1
 ·exact absurd e (key i j hi hj h1)
 ·exact absurd e.symm (key j i hj hi h1)
 ·exact h1
theorem addT_wide {a b : List DRule} (ha : descOk a = true) (hw : WideD a b) : addT b a = [] := by
 have key : ∀ i (hi : i < a.length), addT1 b a[i] = [] := by
  intro i hi
  unfold addT1
  split
  ·split
   ·rename_i h7 h0
    obtain ⟨h', hnm⟩ := findR_spec h0
    have hlt : (findR b a[i].nm).toNat < a.length := by rw [← hw.len]; exact h'
    have hid : (findR b a[i].nm).toNat = i := by
     have e : a[(findR b a[i].nm).toNat].nm = a[i].nm := ((hw.wid _ hlt h').same.1).symm.trans hnm
     exact names_inj ha hlt hi e
    rw [hid] at h' ⊢
    rw [List.getElem?_eq_getElem h']
    dsimp only
    split
    ·unfold newT
     obtain ⟨s, hs⟩ := (hw.wid i hi h').tags
     rw [List.map_eq_nil_iff, List.filter_eq_nil_iff]
     intro t ht
     rw [List.take_length] at ht
     have h1 : tagN a[i].tags t < a[i].tags.length := by
      unfold tagN
      exact List.findIdx_lt_length_of_exists ⟨t, ht, by simp⟩
     rw [hs, tagN_app h1, List.length_append]
     simp; omega
    ·rfl
   ·rfl
  ·rfl
 unfold addT
 split
 ·unfold addTk
  rw [List.take_length, List.flatMap_eq_nil_iff]
  intro r hr
  obtain ⟨i, hi, rfl⟩ := List.getElem_of_mem hr
  exact key i hi
 ·rfl
theorem shared_self (a : List DRule) : shared a a = nmsOf a := by
 unfold shared
 rw [List.filter_eq_self]
 intro s hs
 exact List.any_eq_true.2 ⟨s, hs, by simp⟩
theorem cho_wide {a : List DRule} {x : DRule} {z k : Nat} (hz : z < 3) (h8 : x.tags.length < 8) (ht : ∀ t ∈ x.tags, t ≤ 100) (h : choOk a x = true) :
 choOk a { x with tags := x.tags ++ [x.tags.getD (x.tags.length - 1) 0 + 1 + (z : Int)], kids := x.kids ++ [(k : Int)] } = true := by
 unfold choOk plainB at h ⊢
 simp only [Bool.and_eq_true, between_iff] at h ⊢
 obtain ⟨⟨⟨⟨⟨⟨p1, p2⟩, p3⟩, p4⟩, p5⟩, hb⟩, hall⟩ := h
 have hkl : (x.kids.length : Int) = (x.tags.length : Int) + 1 := by
  simp only [Bool.or_eq_true, decide_eq_true_eq] at p5
  omega
 have hk0 : (x.kids ++ [(k : Int)]).getD 0 0 = x.kids.getD 0 0 := by
  rw [List.getD_eq_getElem?_getD, List.getD_eq_getElem?_getD, List.getElem?_append_left (by omega)]
 have hAt : ∀ j (hj : j < x.tags.length), (0 ≤ x.tags[j] ∧ x.tags[j] ≤ limD a (x.kids.getD 0 0)) := by
  intro j hj
  have h1 := allN_at hall hj
  unfold tagOk at h1
  rw [List.getElem?_eq_getElem hj] at h1
  simp only [Bool.and_eq_true, between_iff] at h1
  exact h1.1
 have hlim : 255 ≤ limD a (x.kids.getD 0 0) := by
  have h1 := hAt 0 (by omega)
  have h2 : limD a (x.kids.getD 0 0) ≠ -1 := by omega
  unfold limD at *
  split at h2
  ·rename_i h3
   rw [if_pos h3]
   split at h2
   ·rename_i r hr
    rcases limR_cases r with h4 | h4 | h4 | h4 | h4 <;> omega
   ·omega
  ·omega
 have hlast : x.tags.getD (x.tags.length - 1) 0 = x.tags[x.tags.length - 1]'(by omega) := by
  rw [List.getD_eq_getElem?_getD, List.getElem?_eq_getElem (by omega)]; rfl
 refine ⟨⟨⟨⟨⟨⟨p1, p2⟩, p3⟩, rfl⟩, ?_⟩, ?_⟩, allN_yes fun j hj => ?_⟩
 ·simp only [List.length_append, List.length_singleton, Bool.or_eq_true, decide_eq_true_eq]
  omega
 ·simp only [List.length_append, List.length_singleton]
  omega
 ·rw [hk0]
  simp only [List.length_append, List.length_singleton] at hj
  rcases (by omega : j < x.tags.length ∨ j = x.tags.length) with hj' | rfl
  ·have h1 := allN_at hall hj'
   unfold tagOk at h1 ⊢
   rw [List.getElem?_append_left hj']
   rw [List.getElem?_eq_getElem hj'] at h1 ⊢
   have e : (x.tags ++ [x.tags.getD (x.tags.length - 1) 0 + 1 + (z : Int)]).getD (j - 1) 0 = x.tags.getD (j - 1) 0 := by
    rw [List.getD_eq_getElem?_getD, List.getElem?_append_left (by omega), ← List.getD_eq_getElem?_getD]
   dsimp only at h1 ⊢
   rw [e]; exact h1
  ·unfold tagOk
   rw [List.getElem?_append_right (Nat.le_refl _), Nat.sub_self]
   have e : (x.tags ++ [x.tags.getD (x.tags.length - 1) 0 + 1 + (z : Int)]).getD (x.tags.length - 1) 0 = x.tags.getD (x.tags.length - 1) 0 := by
    rw [List.getD_eq_getElem?_getD, List.getElem?_append_left (by omega), ← List.getD_eq_getElem?_getD]
   simp only [List.getElem?_cons_zero, Bool.and_eq_true, between_iff, Bool.or_eq_true, decide_eq_true_eq]
   rw [e, hlast]
   have h1 := hAt (x.tags.length - 1) (by omega)
   have h2 := ht _ (List.getElem_mem (show x.tags.length - 1 < x.tags.length by omega))
   refine ⟨⟨by omega, by omega⟩, .inr (by omega)⟩
theorem WI.wide {ds : List DRule} {ps : List RV} (h : WI ds ps ds.length) : WideD ds (rulesOf ps) := by
 have hl := h.len
 refine ⟨by simp [rulesOf, hl], fun i h1 h2 => ?_⟩
 have hi' : i < ps.length := by omega
 have e : (rulesOf ps)[i] = ps[i].r := by simp [rulesOf]
 rw [e]
 exact h.wid i hi' h1 h1
theorem wide_ok {a b : List DRule} (ha : descOk a = true) (hw : WideD a b) (ht : ∀ i (hi : i < a.length), ∀ x ∈ a[i].tags, x ≤ 100) : descOk b = true := by
 have h0 := ha
 have hla := descOk_len ha
 have hl := hw.len
 unfold descOk at h0 ⊢
 rw [Bool.and_eq_true, between_iff] at h0 ⊢
 refine ⟨by omega, allN_yes fun i hi => ?_⟩
 have hia : i < a.length := by omega
 have h1 := allN_at h0.2 hia
 unfold ruleOk at h1 ⊢
 rw [List.getElem?_eq_getElem hia] at h1
 rw [List.getElem?_eq_getElem hi]
 simp only [Bool.and_eq_true] at h1 ⊢
 have hwr := hw.wid i hia hi
 obtain ⟨e0, e1, e2, e3, e4, e5⟩ := hwr.same
 refine ⟨⟨⟨⟨by rw [e0]; exact h1.1.1.1.1, by rw [e3, e1]; exact h1.1.1.1.2⟩, allN_yes fun j hj => ?_⟩, allN_yes fun j hj => ?_⟩, ?_⟩
 ·have h2 := allN_at h1.1.1.2 hj
  unfold freshNm at h2 ⊢
  have hja : j < a.length := by omega
  have hjb : j < b.length := by omega
  rw [List.getElem?_eq_getElem hja] at h2
  rw [List.getElem?_eq_getElem hjb]
  dsimp only at h2 ⊢
  rw [(hw.wid j hja hjb).same.1, e0]; exact h2
 ·unfold kidOk
  rw [List.getElem?_eq_getElem hj]
  dsimp only
  rw [between_iff]
  rcases hwr with h | ⟨h7, _, z, k, hz, hb, h⟩
  ·have hj' : j < a[i].kids.length := by rw [← h]; exact hj
   have h2 := allN_at h1.1.2 hj'
   unfold kidOk at h2
   rw [List.getElem?_eq_getElem hj'] at h2
   dsimp only at h2
   rw [between_iff] at h2
   have e : b[i].kids[j] = a[i].kids[j] := by simp [h]
   rw [e]; exact h2
  ·have hbk : b[i].kids = a[i].kids ++ [(k : Int)] := by rw [h]
   have hkl := ((kids_len ha i hia).2.2.2.1 h7).1
   have hk0 := kd_lt ha i hia 0 (by omega)
   have hki : k < i := by unfold below at hb; split at hb <;> omega
   rw [List.getElem_of_eq hbk]
   rcases (by rw [hbk, List.length_append, List.length_singleton] at hj; omega : j < a[i].kids.length ∨ j = a[i].kids.length) with hj' | hj'
   ·rw [List.getElem_append_left hj']
    have h2 := descOk_kid ha i hia j hj'
    omega
   ·rw [List.getElem_append_right (by omega)]
    simp
    omega
 ·have hka := h1.2
  rw [kindOk_lim (limD_wide hw)]
  rcases hwr with h | ⟨h7, h8, z, k, hz, hb, h⟩
  ·rw [h]; exact hka
  ·have hk7 := hka
   unfold kindOk at hk7
   rw [if_neg (by omega), if_neg (by omega), if_neg (by omega), if_neg (by omega), if_neg (by omega), if_neg (by omega), if_pos h7] at hk7
   have hy := cho_wide (a := a) (k := k) hz h8 (ht i hia) hk7
   rw [← h] at hy
   unfold kindOk
   rw [if_neg (by omega), if_neg (by omega), if_neg (by omega), if_neg (by omega), if_neg (by omega), if_neg (by omega), if_pos (by omega)]
   exact hy
theorem wide_law {a b : List DRule} (ha : descOk a = true) (hw : WideD a b) (ht : ∀ i (hi : i < a.length), ∀ x ∈ a[i].tags, x ≤ 100) :
 descOk b = true ∧ extD a a = true ∧ extD a b = true ∧ sameF b b = true ∧ sameF a b = extD b a ∧ addT b a = [] ∧ addT a a = [] ∧ shared a a = nmsOf a ∧ ext a b (a.length - 1) (b.length - 1) = true := by
 have hb := wide_ok ha hw ht
 have h0 := descOk_len ha
 have hl := hw.len
 refine ⟨hb, extD_wide ha ha (WideD.refl a), extD_wide ha hb hw, ?_, ?_, addT_wide ha hw, addT_wide ha (WideD.refl a), shared_self a, ?_⟩
 ·unfold sameF; rw [extD_wide hb hb (WideD.refl b)]; rfl
 ·unfold sameF; rw [extD_wide ha hb hw, Bool.true_and]
 ·rw [hl]; exact ext_wide ha hw a.length _ (by omega) (by omega)
theorem read_back {a b : List DRule} (ha : descOk a = true) (hb : descOk b = true) (he : ext a b (a.length - 1) (b.length - 1) = true) {v : DVal} {f : List UInt8} (h : printF a v = some f) : readFile b f = ⟨v, f.length, 0⟩ := by
 obtain ⟨_, h0, hv, hf, h4⟩ := printF_yes h
 have hb0 := descOk_len hb
 have hr := read_print ha hb f b.length (a.length - 1) (b.length - 1) v [] [] (by omega) (by omega) he hv (by rw [hf]; simp)
 have hr' : readV b f (b.length - 1) 0 = ⟨v, f.length, 0⟩ := by
  unfold readV
  rw [show b.length - 1 + 1 = b.length by omega]
  rw [← hf] at hr
  simpa using hr
 unfold readFile
 rw [if_pos ⟨hb, h4⟩, hr']
 rw [if_neg (by dsimp only; omega)]
end Go.Proofs.YtpmcofmdjckijaaGreatDoor
namespace Go.Proofs.YtpmcofmdjckijaaGreatDoor
open Go.RowKit Go.Sort
theorem sDescNames_c (A : Option Addr) (ds : List DRule) (c : Nat) (w : World) (hd : RdD w A ds c) (hL : ds.length ≤ 1048576) :
 Calls Tryz.prog 17 #[vdesc (.slice A ds.length c)] w fun e w' => ∃ v, e = .returned v ∧ OwnL vstr 9 w w' v (nmsOf ds) ∧ Ext w w' := by
 have hl := hd.len
 have eb := Ext_alloc (.cells #[.slice A ds.length c] 26) (Ext.refl w)
 have BX := fun w' (e : Ext (w.alloc (.cells #[.slice A ds.length c] 26)) w') => boxed e
 have BX0 := fun w' (e : Ext (w.alloc (.cells #[.slice A ds.length c] 26)) w') => BX w' e 0
 unfold vdesc
 go_enter Tryz.func17, Tryz.ntmps17
 go_wp2
 obtain ⟨W0, hW0⟩ : ∃ W0, W0 = (w.alloc (.cells #[.slice A ds.length c] 26)) := ⟨_, rfl⟩
 rw [← hW0] at eb BX BX0 ⊢
 have HW0 := Lib.hid hW0; clear hW0
 go_loopw [3, 4] (fun t q wr => ∃ k : Nat, k ≤ ds.length ∧ q = .int .i64 k ∧ Hid (OwnL vstr 9 W0 wr t ((ds.take k).map DRule.nm)) ∧ Ext W0 wr) (fun _ q _ => ds.length - (intOf q).toNat)
 case atStart => exact ⟨0, by omega, rfl, by
  have := OwnL.empty (f := vstr) (e := 9) (Ext.refl W0)
  have hs : W0.heap.size = w.heap.size + 1 := by rw [HW0.out]; simp
  rw [hs] at this
  simpa [Hid] using this, Ext_alloc _ (Ext.refl _)⟩
 case round =>
  obtain ⟨k, hk, rfl, ho, he⟩ := hrel
  have bx := BX0 wr he
  by_cases hlt : k < ds.length
  ·obtain ⟨b, off, Ab, cb, An, cn, At, ct, Ak, ck, rfl, hb, _, hR⟩ := hd.at k hlt
   have HT := Lib.hid (take_snoc' DRule.nm ds k hlt)
   have hlen : ((ds.take k).map DRule.nm).length = k := by rw [List.length_map, List.length_take]; omega
   have HB : Hid ((((ds.take k).map DRule.nm).length + [ds[k].nm].length) * 16 ≤ 140737488355328) := by show _ ≤ _; rw [hlen]; simp only [List.length_cons, List.length_nil]; omega
   generalize ds[k] = p at *
   obtain ⟨m0, m1, m2, m3, m4, m5, m6, m7⟩ := hR.ext eb
   clear hd hR hlen
   have HO := Lib.hid ho.out
   go_wp2_with (first
    | (at_builtin; go_must (refine wpList_appNB rfl (.tmp 13) (.tmp 20) _ rfl E_str (by omega) W0 _ vstr (fun _ => rfl) _ rfl _ _ _ rfl (by simp) ((ds.take k).map DRule.nm) [p.nm] _ rfl HO.out he rfl HB.out ?_); intro v1 w1 ho1 he1 _ _; rw [HT.out] at ho1))
   go_roundw
   case rel => exact ⟨k+1, by omega, by go_num, ho1, he1⟩
   case measure => simp [intOf]; omega
  ·have HE : Hid ((ds.take k).map DRule.nm = nmsOf ds) := by show _ = _; rw [List.take_of_length_le (by omega)]; rfl
   go_wp2
   go_ret
   refine ⟨_, rfl, ?_, eb.trans he⟩
   rw [← HE.out]; exact ho.out.down eb.size
end Go.Proofs.YtpmcofmdjckijaaGreatDoor
namespace Go.Proofs.YtpmcofmdjckijaaGreatDoor
open Go.RowKit Go.Sort
open Go.Maps (Keyed)
theorem run_lookup_ok {H : Type} {P : Program} {w : World} {k e t : TypeId} {b n : Nat} {D : DataW H} (K : Keyed P k) (ht : P.underlying t = some (.map k e)) (he : P.underlying e = some .bool)
 (hz : (zeroValue e).run P w = .ok (.bool false) w) (hown : w.ownsMap P k (plainElem P e) b n D) {key : Value} {kl : Lit} (hkey : keyOf P k key = some kl) :
 ((Instr.lookup t (.map (some b)) key true).run P w = .ok (.tuple #[.bool false, .bool false]) w ∧ Maps.has D kl = false) ∨
 ∃ c, (Instr.lookup t (.map (some b)) key true).run P w = .ok (.tuple #[.bool c, .bool true]) w ∧ Maps.has D kl = true ∧ ∀ z, D.atKey kl z = .lit (.bool c) := by
 obtain ⟨es, clock, hb, F, _, rfl⟩ := hown
 rcases Maps.fit_look true K ht hz hb F hkey with ⟨hrun, _, hat⟩ | ⟨e0, y, _, _, hrun, hRv, hat, _⟩
 ·exact .inl ⟨hrun, Maps.has_false_of_atKey hat⟩
 ·right
  have hc : ∃ c, e0.val = .bool c ∧ y = (.lit (.bool c), []) := by
   unfold plainElem at hRv
   rw [he] at hRv
   cases hv : e0.val <;> rw [hv] at hRv <;> simp at hRv
   exact ⟨_, rfl, hRv.symm⟩
  obtain ⟨c, h1, h2⟩ := hc
  rw [h1] at hrun
  subst h2
  exact ⟨c, hrun, Maps.has_true_of_atKey hat, hat⟩
theorem wpList_lookup_ok {H : Type} {P : Program} (w : World) {ops : Array Oper} {rest : List Oper} {o : Oper} {a : Act} {Q : Exit → Act → World → Prop}
 (hg : o.guard = none) (m x : Operand) (t : TypeId) (hop : o.op = Op.lookup t m x true)
 (k e : TypeId) (K : Keyed P k) (ht : P.underlying t = some (.map k e)) (he : P.underlying e = some .bool) (hz : (zeroValue e).run P w = .ok (.bool false) w) (b n : Nat) (D : DataW H)
 (hm : a.eval m = .map (some b)) (hown : w.ownsMap P k (plainElem P e) b n D) (key : Value) (kl : Lit) (hx : a.eval x = key) (hkey : keyOf P k key = some kl)
 (hno : Maps.has D kl = false → wpList P ops Q rest (a.put o.dst (.tuple #[.bool false, .bool false])) w)
 (hyes : ∀ c : Bool, Maps.has D kl = true → (∀ z, D.atKey kl z = .lit (.bool c)) → wpList P ops Q rest (a.put o.dst (.tuple #[.bool c, .bool true])) w) :
 wpList P ops Q (o :: rest) a w := by
 refine wpList_plain hg fun K' hK' => ?_
 rcases run_lookup_ok K ht he hz hown hkey with ⟨hrun, h1⟩ | ⟨c, hrun, h1, h2⟩
 ·unfold Oper.wp
  simp [execOp, hop, hm, hx, hrun, Result.andThen]
  exact hK' _ _ (hno h1)
 ·unfold Oper.wp
  simp [execOp, hop, hm, hx, hrun, Result.andThen]
  exact hK' _ _ (hyes c h1 h2)
def pairV (x y : Int) : Value := .agg #[.int .i64 x, .int .i64 y]
theorem keyOf_pair {P : Program} {k e : TypeId} (hk : P.underlying k = some (.array 2 e)) (he : P.underlying e = some (.int .i64)) (hkt : P.keyType k = true) (hc : P.cellsOf k = 2) (hce : P.cellsOf e = 1)
 (hsz : 0 < P.types.size) {x y : Int} (hx : (Lit.int .i64 x).wf = true) (hy : (Lit.int .i64 y).wf = true) : keyOf P k (pairV x y) = some (.string (keyBytes [.int .i64 x, .int .i64 y])) := by
 have hf : (pairV x y).formed P k = true := by simp [pairV, Value.formed, hk, hc]
 have hcs : (pairV x y).cells = #[.int .i64 x, .int .i64 y] := rfl
 unfold keyOf
 simp only [hk]
 rw [if_pos (by rw [hkt, hf]; rfl), hcs]
 obtain ⟨n, hn⟩ : ∃ n, P.types.size = n + 1 := ⟨P.types.size - 1, by omega⟩
 rw [hn]
 have h1 : P.keyLits (n + 1 + 1) k [.int .i64 x, .int .i64 y] = some [.int .i64 x, .int .i64 y] := by
  have e0 : P.keyLits (n + 1) e [.int .i64 x] = some [.int .i64 x] := by unfold Program.keyLits; simp only [he]; rw [if_pos ⟨trivial, hx⟩]
  have e1 : P.keyLits (n + 1) e [.int .i64 y] = some [.int .i64 y] := by unfold Program.keyLits; simp only [he]; rw [if_pos ⟨trivial, hy⟩]
  unfold Program.keyLits
  simp only [hk]
  rw [if_pos (by rw [hc]; rfl)]
  simp [List.range, List.range.loop, List.mapM_cons, hce, e0, e1]
 simp [h1]
theorem nodup_lt (N : Nat) : ∀ l : List Nat, l.Nodup → (∀ x ∈ l, x < N) → l.length ≤ N := by
 induction N with
 | zero => intro l _ h; cases l with
  | nil => simp
  | cons a t => have := h a (by simp); omega
 | succ N ih =>
  intro l hn h
  by_cases hm : N ∈ l
  ·have h1 := List.length_erase_of_mem hm
   have h2 := ih (l.erase N) (hn.erase N) (fun x hx => by
    have h3 := (hn.mem_erase_iff).1 hx
    have := h x h3.2
    omega)
   omega
  ·have := ih l hn (fun x hx => by
    have h1 := h x hx
    have h2 : x ≠ N := fun e => hm (e ▸ hx)
    omega)
   omega
theorem pairs_len {m n : Nat} (l : List (Nat × Nat)) (hn : l.Nodup) (h : ∀ p ∈ l, p.1 < m ∧ p.2 < n) : l.length ≤ m * n := by
 have h1 := nodup_lt (m * n) (l.map fun p => p.1 * n + p.2) (by
  refine List.Pairwise.map _ ?_ (List.Pairwise.and_mem.1 hn)
  rintro ⟨a, b⟩ ⟨c, d⟩ ⟨h1, h2, h3⟩ he
  have g1 := h _ h1; have g2 := h _ h2
  simp only at g1 g2 he
  apply h3
  have hac : a = c := by
   rcases Nat.lt_trichotomy a c with hl | hl | hl
   ·have : (a + 1) * n ≤ c * n := Nat.mul_le_mul_right n hl
    rw [Nat.add_mul] at this; omega
   ·exact hl
   ·have : (c + 1) * n ≤ a * n := Nat.mul_le_mul_right n hl
    rw [Nat.add_mul] at this; omega
  subst hac
  have : b = d := by omega
  rw [this]) (fun x hx => by
   obtain ⟨⟨a, b⟩, hp, rfl⟩ := List.mem_map.1 hx
   have g := h _ hp
   simp only at g ⊢
   have : (a + 1) * n ≤ m * n := Nat.mul_le_mul_right n g.1
   rw [Nat.add_mul] at this; omega)
 simpa using h1
structure Memo (P : Program) (k e : TypeId) (f : Nat → Nat → Bool) (m n : Nat) (w : World) (b : Nat) (S : List (Nat × Nat)) : Prop where
 own : ∃ D : DataW Unit, w.ownsMap P k (plainElem P e) b S.length D ∧ Maps.IsMap D ∧ ∀ x y kl, x < m → y < n → keyOf P k (pairV x y) = some kl → (Maps.has D kl = true ↔ (x, y) ∈ S) ∧ ((x, y) ∈ S → ∀ z, D.atKey kl z = .lit (.bool (f x y)))
 nodup : S.Nodup
 lt : ∀ p ∈ S, p.1 < m ∧ p.2 < n
open Go.RowKit Go.Sort
section
variable {P : Program} {k e t : TypeId} {f : Nat → Nat → Bool} {m n : Nat} {w : World} {b : Nat} {S : List (Nat × Nat)}
theorem Memo.room (h : Memo P k e f m n w b S) (hm : m ≤ 24) (hn : n ≤ 24) : S.length < maxLen := by
 have h1 := pairs_len S h.nodup h.lt
 have h2 : m * n ≤ 24 * 24 := Nat.mul_le_mul hm hn
 have h3 : 24 * 24 < maxLen := by decide
 omega
theorem Memo.block (h : Memo P k e f m n w b S) : b < w.heap.size := by
 obtain ⟨D, h1, _⟩ := h.own
 exact h1.lt
theorem Memo.kept {w' : World} {row : Option Nat} (h : Memo P k e f m n w b S) (hg : w.grownBy w' row) (hne : some b ≠ row) : Memo P k e f m n w' b S := by
 obtain ⟨D, h1, h2⟩ := h.own
 exact ⟨⟨D, h1.kept hg hne, h2⟩, h.nodup, h.lt⟩
theorem Memo.made (w : World) : Memo P k e f m n (w.alloc (.map #[] 0)) w.heap.size [] :=
 ⟨⟨.map [], World.ownsMap_made w P k _, Maps.isMap_empty, fun x y kl _ _ _ => ⟨by simp [Maps.has_eq], by simp⟩⟩, by simp, by simp⟩
theorem Memo.look (h : Memo P k e f m n w b S) {ops : Array Oper} {rest : List Oper} {o : Oper} {a : Act} {Q : Exit → Act → World → Prop}
 (hg : o.guard = none) (mo xo : Operand) (hop : o.op = Op.lookup t mo xo true)
 (K : Keyed P k) (ht : P.underlying t = some (.map k e)) (he : P.underlying e = some .bool) (hz : (zeroValue e).run P w = .ok (.bool false) w)
 (hm : a.eval mo = .map (some b)) {x y : Nat} (hx : a.eval xo = pairV x y) (hxm : x < m) (hyn : y < n) {kl : Lit} (hkey : keyOf P k (pairV x y) = some kl)
 (hno : (x, y) ∉ S → wpList P ops Q rest (a.put o.dst (.tuple #[.bool false, .bool false])) w)
 (hyes : (x, y) ∈ S → wpList P ops Q rest (a.put o.dst (.tuple #[.bool (f x y), .bool true])) w) :
 wpList P ops Q (o :: rest) a w := by
 obtain ⟨D, h1, h2, h3⟩ := h.own
 obtain ⟨g1, g2⟩ := h3 x y kl hxm hyn hkey
 refine wpList_lookup_ok w hg mo xo t hop k e K ht he hz b S.length D hm h1 _ kl hx hkey (fun hh => hno (fun hc => ?_)) (fun c hh hc => ?_)
 ·have := g1.2 hc; rw [hh] at this; cases this
 ·have hin := g1.1 hh
  have h4 := hc .nil
  rw [g2 hin .nil] at h4
  injection h4 with h4
  injection h4 with h4
  subst h4
  exact hyes hin
theorem Memo.store (h : Memo P k e f m n w b S) {ops : Array Oper} {rest : List Oper} {o : Oper} {a : Act} {Q : Exit → Act → World → Prop}
 (hg : o.guard = none) (mo xo vo : Operand) (hop : o.op = Op.mapUpdate t mo xo vo)
 (K : Keyed P k) (ht : P.underlying t = some (.map k e)) (he : P.underlying e = some .bool) (hm24 : m ≤ 24) (hn24 : n ≤ 24)
 (hm : a.eval mo = .map (some b)) {x y : Nat} (hx : a.eval xo = pairV x y) (hv : a.eval vo = .bool (f x y)) (hxm : x < m) (hyn : y < n)
 (hkey : ∀ x y : Nat, x < m → y < n → ∃ kl, keyOf P k (pairV x y) = some kl) (hnew : (x, y) ∉ S)
 (hK : ∀ w', Memo P k e f m n w' b ((x, y) :: S) → w.grownBy w' (some b) → wpList P ops Q rest (a.put o.dst undef) w') :
 wpList P ops Q (o :: rest) a w := by
 obtain ⟨D, h1, h2, h3⟩ := h.own
 obtain ⟨kl, hkl⟩ := hkey x y hxm hyn
 have hik := K.key hkl
 refine wpList_mapUpdate_own w hg mo xo vo t hop k e K ht _ b S.length D hm h1 (h.room hm24 hn24) _ _ kl hx hv hkl (.lit (.bool (f x y))) [] (plainElem_bool he _) ?_
 intro w' ho hg'
 refine hK w' ⟨⟨_, ho, h2.put kl _, fun x' y' kl' hx' hy' hk' => ?_⟩, List.nodup_cons.2 ⟨hnew, h.nodup⟩, fun p hp => ?_⟩ hg'
 ·by_cases hkk : kl' = kl
  ·subst hkk
   have hp := K.inj hk' hkl
   unfold pairV at hp
   injection hp with hp
   simp at hp
   obtain ⟨e1, e2⟩ := hp
   have e1 : x' = x := by omega
   have e2 : y' = y := by omega
   subst e1; subst e2
   exact ⟨⟨fun _ => by simp, fun _ => Maps.has_put_same h2 hik _⟩, fun _ z => Maps.atKey_put_same h2 hik _ z⟩
  ·obtain ⟨g1, g2⟩ := h3 x' y' kl' hx' hy' hk'
   have hne : (x', y') ≠ (x, y) := by
    intro hh
    injection hh with e1 e2
    subst e1; subst e2
    rw [hkl] at hk'
    injection hk' with hk'
    exact hkk hk'.symm
   refine ⟨?_, fun hin z => ?_⟩
   ·rw [Maps.has_put_other hkk, g1]
    simp [hne]
   ·rw [Maps.atKey_put_other hkk]
    rcases List.mem_cons.1 hin with hin | hin
    ·exact absurd hin hne
    ·exact g2 hin z
 ·rcases List.mem_cons.1 hp with rfl | hp
  ·exact ⟨hxm, hyn⟩
  ·exact h.lt p hp
end
theorem pairKey : Keyed Tryz.prog 87 := Keyed.of_law (deep_law_laid fact_laid (m := 2) (by omega) (of_decide_eq_true (by kernel_rfl)) (by kernel_rfl) (by kernel_rfl))
theorem wf24 (x : Nat) (hx : x < 24) : (Lit.int .i64 (x : Int)).wf = true := by
 have h1 : IntKind.i64.min = -9223372036854775808 := by rfl
 have h2 : IntKind.i64.max = 9223372036854775807 := by rfl
 show (decide (IntKind.i64.min ≤ (x : Int)) && decide ((x : Int) ≤ IntKind.i64.max)) = true
 rw [h1, h2, Bool.and_eq_true, decide_eq_true_eq, decide_eq_true_eq]
 omega
theorem pairKeyOf (x y : Nat) (hx : x < 24) (hy : y < 24) : ∃ kl, keyOf Tryz.prog 87 (pairV x y) = some kl :=
 ⟨_, keyOf_pair (e := 3) Tryz.underlying87 Tryz.underlying3 (by kernel_rfl) (by kernel_rfl) (by kernel_rfl) (of_decide_eq_true (by kernel_rfl)) (wf24 x hx) (wf24 y hy)⟩
theorem zeroBool (w : World) : (zeroValue 4).run Tryz.prog w = .ok (.bool false) w := by kernel_rfl
end Go.Proofs.YtpmcofmdjckijaaGreatDoor
namespace Go.Proofs.YtpmcofmdjckijaaGreatDoor
open Go.RowKit Go.Sort
def extT (k : Int) : TypeId := if k = 4 ∨ k = 5 ∨ k = 6 ∨ k = 8 ∨ k = 9 then 114 else if k = 7 then 115 else 116
theorem extenderOf_c (p : DRule) (Ab : Option Addr) (cb : Nat) (An : Option Addr) (cn : Nat) (At : Option Addr) (ct : Nat) (Ak : Option Addr) (ck : Nat) (w : World) :
 Gives Tryz.prog 77 #[vrule p (.slice Ab p.bytes.length cb) (.slice An p.names.length cn) (.slice At p.tags.length ct) (.slice Ak p.kids.length ck)] w (.iface (extT p.kind) (vrule p (.slice Ab p.bytes.length cb) (.slice An p.names.length cn) (.slice At p.tags.length ct) (.slice Ak p.kids.length ck))) := by
 have eb := Ext_alloc (.cells #[.string p.nm, .int .i64 p.kind, .int .i64 p.size, .bool p.little, .slice Ab p.bytes.length cb, .slice An p.names.length cn, .slice At p.tags.length ct, .slice Ak p.kids.length ck] 51) (Ext.refl w)
 have BX := fun w' (e : Ext (w.alloc (.cells #[.string p.nm, .int .i64 p.kind, .int .i64 p.size, .bool p.little, .slice Ab p.bytes.length cb, .slice An p.names.length cn, .slice At p.tags.length ct, .slice Ak p.kids.length ck] 51)) w') => boxed e
 unfold vrule
 have K : ∀ k : Int, (p.kind == k) = decide (p.kind = k) := fun k => by rw [Bool.eq_iff_iff]; simp
 by_cases h4 : p.kind = 4
 ·have HT : Hid (extT p.kind = 114) := if_pos (by omega)
  have k4 : (p.kind == 4) = true := by rw [K]; exact decide_eq_true h4
  rw [HT.out]; clear h4 K
  go_enter Tryz.func77, Tryz.ntmps77
  go_wp2
  go_ret
  exact ⟨rfl, eb⟩
 have k4 : (p.kind == 4) = false := by rw [K]; exact decide_eq_false h4
 by_cases h5 : p.kind = 5
 ·have HT : Hid (extT p.kind = 114) := if_pos (by omega)
  have k5 : (p.kind == 5) = true := by rw [K]; exact decide_eq_true h5
  rw [HT.out]; clear h4 h5 K
  go_enter Tryz.func77, Tryz.ntmps77
  go_wp2
  go_ret
  exact ⟨rfl, eb⟩
 have k5 : (p.kind == 5) = false := by rw [K]; exact decide_eq_false h5
 by_cases h6 : p.kind = 6
 ·have HT : Hid (extT p.kind = 114) := if_pos (by omega)
  have k6 : (p.kind == 6) = true := by rw [K]; exact decide_eq_true h6
  rw [HT.out]; clear h4 h5 h6 K
  go_enter Tryz.func77, Tryz.ntmps77
  go_wp2
  go_ret
  exact ⟨rfl, eb⟩
 have k6 : (p.kind == 6) = false := by rw [K]; exact decide_eq_false h6
 by_cases h8 : p.kind = 8
 ·have HT : Hid (extT p.kind = 114) := if_pos (by omega)
  have k8 : (p.kind == 8) = true := by rw [K]; exact decide_eq_true h8
  rw [HT.out]; clear h4 h5 h6 h8 K
  go_enter Tryz.func77, Tryz.ntmps77
  go_wp2
  go_ret
  exact ⟨rfl, eb⟩
 have k8 : (p.kind == 8) = false := by rw [K]; exact decide_eq_false h8
 by_cases h9 : p.kind = 9
 ·have HT : Hid (extT p.kind = 114) := if_pos (by omega)
  have k9 : (p.kind == 9) = true := by rw [K]; exact decide_eq_true h9
  rw [HT.out]; clear h4 h5 h6 h8 h9 K
  go_enter Tryz.func77, Tryz.ntmps77
  go_wp2
  go_ret
  exact ⟨rfl, eb⟩
 have k9 : (p.kind == 9) = false := by rw [K]; exact decide_eq_false h9
 by_cases h7 : p.kind = 7
 ·have HT : Hid (extT p.kind = 115) := by show _ = _; unfold extT; rw [if_neg (by omega), if_pos h7]
  have k7 : (p.kind == 7) = true := by rw [K]; exact decide_eq_true h7
  rw [HT.out]; clear h4 h5 h6 h8 h9 h7 K
  go_enter Tryz.func77, Tryz.ntmps77
  go_wp2
  go_ret
  exact ⟨rfl, eb⟩
 have HT : Hid (extT p.kind = 116) := by show _ = _; unfold extT; rw [if_neg (by omega), if_neg h7]
 have k7 : (p.kind == 7) = false := by rw [K]; exact decide_eq_false h7
 rw [HT.out]; clear h4 h5 h6 h8 h9 h7 K
 go_enter Tryz.func77, Tryz.ntmps77
 go_wp2
 go_ret
 exact ⟨rfl, eb⟩
def selfB (p q : DRule) : Bool :=
 if q.kind = 4 ∨ q.kind = 5 ∨ q.kind = 6 ∨ q.kind = 8 ∨ q.kind = 9 then eqNms q.names p.names && decide (q.kids.length = p.kids.length)
 else if q.kind = 7 then allN p.tags.length (fun t => decide (tagN q.tags (p.tags.getD t 0) < q.tags.length))
 else q.size == p.size && (q.little == p.little && q.bytes == p.bytes)
def extF' (k : Int) : FuncId := if k = 4 ∨ k = 5 ∨ k = 6 ∨ k = 8 ∨ k = 9 then 124 else if k = 7 then 126 else 127
theorem self_c (q p : DRule) (Ab' : Option Addr) (cb' : Nat) (An' : Option Addr) (cn' : Nat) (At' : Option Addr) (ct' : Nat) (Ak' : Option Addr) (ck' : Nat) (Ab : Option Addr) (cb : Nat) (An : Option Addr) (cn : Nat) (At : Option Addr) (ct : Nat) (Ak : Option Addr) (ck : Nat) (w : World) (h' : RdS w q Ab' cb' An' cn' At' ct' Ak' ck') (h : RdS w p Ab cb An cn At ct Ak ck) (hs' : ShortR q) (hs : ShortR p) :
 Gives Tryz.prog (extF' q.kind) #[vrule q (.slice Ab' q.bytes.length cb') (.slice An' q.names.length cn') (.slice At' q.tags.length ct') (.slice Ak' q.kids.length ck'), vrule p (.slice Ab p.bytes.length cb) (.slice An p.names.length cn) (.slice At p.tags.length ct) (.slice Ak p.kids.length ck)] w (.bool (selfB p q)) := by
 unfold extF' selfB
 split
 ·exact partsExt_c q p Ab' cb' An' cn' At' ct' Ak' ck' Ab cb An cn At ct Ak ck w h' h
 ·split
  ·exact tagsExt_c q p Ab' cb' An' cn' At' ct' Ak' ck' Ab cb An cn At ct Ak ck w h' h
  ·exact plainExt_c q p Ab' cb' An' cn' At' ct' Ak' ck' Ab cb An cn At ct Ak ck w h' h hs' hs
theorem eqNms_comm (l l' : List ByteArray) : eqNms l l' = eqNms l' l := by unfold eqNms; rw [Bool.eq_iff_iff]; simp only [beq_iff_eq]; exact eq_comm
theorem kind_cases {q : DRule} (h : 1 ≤ q.kind ∧ q.kind ≤ 10) (h1 : ¬ (q.kind = 4 ∨ q.kind = 5 ∨ q.kind = 6 ∨ q.kind = 8 ∨ q.kind = 9)) (h2 : ¬ q.kind = 7) : q.kind = 1 ∨ q.kind = 2 ∨ q.kind = 3 ∨ q.kind = 10 := by omega
theorem cmp_self_no {p q : DRule} (fp : RuleFacts p) (fq : RuleFacts q) (hk : p.kind = q.kind) (E : Nat → Nat → Bool) (h : selfB p q = false) : (extHead p q && extTail E p q) = false := by
 unfold selfB at h
 split at h
 ·rename_i h1
  unfold extTail
  rw [if_neg (by omega), eqNms_comm]
  rw [Bool.and_eq_false_iff] at h ⊢
  right
  rw [Bool.and_eq_false_iff]; left
  rw [Bool.and_eq_false_iff]
  rcases h with h | h
  ·left; exact h
  ·right; simp at h ⊢; omega
 ·split at h
  ·rename_i h1 h7
   unfold extTail
   rw [if_pos (by omega)]
   have hn : allN p.tags.length (extTag E p q) = false := by
    cases hc : allN p.tags.length (extTag E p q)
    ·rfl
    ·have : allN p.tags.length (fun t => decide (tagN q.tags (p.tags.getD t 0) < q.tags.length)) = true := allN_yes fun j hj => by
      have := allN_at hc hj
      unfold extTag at this
      rw [Bool.and_eq_true] at this
      exact this.1
     rw [h] at this; cases this
   rw [hn]; simp
  ·rename_i h1 h7
   unfold extHead
   have e1 : (p.size == q.size) = (q.size == p.size) := by rw [Bool.eq_iff_iff]; simp; exact eq_comm
   have e2 : (p.little == q.little) = (q.little == p.little) := by rw [Bool.eq_iff_iff]; simp; exact eq_comm
   have e3 : (p.bytes == q.bytes) = (q.bytes == p.bytes) := by rw [Bool.eq_iff_iff]; simp; exact eq_comm
   rw [e1, e2, e3]
   cases g1 : (q.size == p.size)
   ·simp
   ·cases g2 : (q.little == p.little)
    ·simp
    ·cases g3 : (q.bytes == p.bytes)
     ·simp
     ·rw [g1, g2, g3] at h; cases h
theorem head_parts {p q : DRule} (fp : RuleFacts p) (fq : RuleFacts q) (hk : p.kind = q.kind) (h : q.kind = 4 ∨ q.kind = 5 ∨ q.kind = 6 ∨ q.kind = 7 ∨ q.kind = 8 ∨ q.kind = 9) : extHead p q = true := by
 obtain ⟨a1, a2, a3⟩ := fp.parts (by rw [hk]; exact h)
 obtain ⟨b1, b2, b3⟩ := fq.parts h
 unfold extHead
 rw [a1, a2, a3, b1, b2, b3, hk]; simp
theorem cmp_cho {p q : DRule} (fp : RuleFacts p) (fq : RuleFacts q) (hk : p.kind = q.kind) (E : Nat → Nat → Bool) (h : selfB p q = true) (h7 : q.kind = 7) :
 (extHead p q && extTail E p q) = (allN p.tags.length (fun t => E (kd p (t + 1)) (kd q (tagN q.tags (p.tags.getD t 0) + 1))) && E (kd p 0) (kd q 0)) ∧ ∀ t, t < p.tags.length → tagN q.tags (p.tags.getD t 0) < q.tags.length := by
 unfold selfB at h
 rw [if_neg (by omega), if_pos h7] at h
 have hin : ∀ t, t < p.tags.length → tagN q.tags (p.tags.getD t 0) < q.tags.length := fun t ht => by simpa using allN_at h ht
 refine ⟨?_, hin⟩
 rw [head_parts fp fq hk (by omega), Bool.true_and]
 unfold extTail
 rw [if_pos (by omega), Bool.and_comm]
 congr 1
 refine allN_congr fun t ht => ?_
 unfold extTag
 rw [decide_eq_true (hin t ht), Bool.true_and]
theorem cmp_other {p q : DRule} (fp : RuleFacts p) (fq : RuleFacts q) (hk : p.kind = q.kind) (E : Nat → Nat → Bool) (h : selfB p q = true) (h7 : ¬ q.kind = 7) :
 (extHead p q && extTail E p q) = allN q.kids.length (fun t => E (kd p t) (kd q t)) ∧ p.kids.length = q.kids.length := by
 unfold selfB at h
 by_cases h1 : q.kind = 4 ∨ q.kind = 5 ∨ q.kind = 6 ∨ q.kind = 8 ∨ q.kind = 9
 ·rw [if_pos h1, Bool.and_eq_true, decide_eq_true_eq] at h
  refine ⟨?_, h.2.symm⟩
  rw [head_parts fp fq hk (by omega), Bool.true_and]
  unfold extTail
  rw [if_neg (by omega), eqNms_comm, h.1, h.2]; simp
 ·rw [if_neg h1, if_neg h7] at h
  have hq := kind_cases fq.kind h1 h7
  obtain ⟨b1, b2⟩ := fq.plain hq
  obtain ⟨a1, a2⟩ := fp.plain (by rw [hk]; exact hq)
  have hh : extHead p q = true := by
   simp only [Bool.and_eq_true, beq_iff_eq] at h
   unfold extHead
   rw [hk, h.1, h.2.1, h.2.2]; simp
  refine ⟨?_, by rw [a2, b2]⟩
  rw [hh, Bool.true_and]
  unfold extTail
  rw [if_neg (by omega), a1, b1, a2, b2]; simp [eqNms]
theorem ext_method (k : Int) (v : Value) (w : World) : (method (Tryz.prog.types.size + Made.depth) (extT k) v "loop.example/g00518/impl.extends").run Tryz.prog w = .ok (extF' k, v) w := by
 unfold extT extF'
 split
 ·kernel_rfl
 ·split
  ·kernel_rfl
  ·kernel_rfl
theorem ext_called (k : Int) (args : Array Value) (w : World) : (callFunc (extF' k) args).run Tryz.prog w = .ok (.enter (extF' k) args) w := by
 unfold extF'
 split
 ·kernel_rfl
 ·split
  ·kernel_rfl
  ·kernel_rfl
theorem quiet_invoke {P : Program} {C : World → Prop} {a : Act} {o : Oper} {K : Act → Prop} (r x : Operand) (name : String) (argTypes : Array TypeId) (hop : o.op = .call { callee := .invoke r name, args := #[x], argTypes := argTypes })
 (t : TypeId) (v y : Value) (f : FuncId) (hr : a.eval r = .iface t v) (hx : a.eval x = y) (hm : ∀ w, (method (P.types.size + Made.depth) t v name).run P w = .ok (f, v) w) (hf : ∀ args w, (callFunc f args).run P w = .ok (.enter f args) w) (res : Value)
 (hc : ∀ w, C w → Calls P f #[v, y] w (fun e w'' => e = .returned res ∧ C w'')) (hk : K (a.put o.dst res)) : o.quiet P a C K := by
 refine ⟨res, fun w hw => ?_, hk⟩
 unfold Oper.quietAt execOp
 simp only [hop]
 have hp : ∀ w, (program : Sem Program).run P w = .ok P w := fun w => rfl
 simp [resolve, invoke, hr, hx, callMethod, hm, hp, hf, Result.andThen]
 exact ⟨rfl, hc w hw⟩
end Go.Proofs.YtpmcofmdjckijaaGreatDoor
