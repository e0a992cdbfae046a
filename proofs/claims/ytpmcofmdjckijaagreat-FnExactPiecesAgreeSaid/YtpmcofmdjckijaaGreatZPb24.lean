/- Texts, laid into one. -/
import Derived.Test.YtpmcofmdjckijaaGreatZPb22
set_option linter.unusedVariables false
set_option linter.unusedSimpArgs false
set_option maxRecDepth 100000
set_option maxHeartbeats 16000000
namespace Go.Proofs.YtpmcofmdjckijaaGreat
open Go.RowKit Go.Sort
theorem range_snoc {α : Type} (f : Nat → α) (k : Nat) : (List.range k).map f ++ [f k] = (List.range (k + 1)).map f := by rw [List.range_succ, List.map_append]; rfl
section
variable {P : Program} {ops : Array Oper} {rest : List Oper} {o : Oper} {a : Act} {Q : Exit → Act → World → Prop}
theorem wpList_appIE (hgd : o.guard = none) (s x : Operand) (t : TypeId) (ho : o.op = .call { callee := .builtin .append, args := #[s, x], argTypes := #[t, t] })
 {bytes : Nat} {z : Value} (hE : Elem P t 79 3 bytes z) (w0 w : World) (v : Value) (l ys : List Ins) (hs : a.eval s = v) (hown : OwnI w0 w v l)
 (he : Ext w0 w) (cs : Array Value) (hcs : cs = (ys.flatMap icells).toArray) (m c : Nat) (hm : m = ys.length) (hx : a.eval x = .slice (some ⟨w.heap.size, 0, none⟩) m c) (hby : bytes = 24) (hb : l.length + ys.length ≤ 1000000)
 (h : ∀ v' w', OwnI w0 w' v' (l ++ ys) → Ext w0 w' → (v'.ownBlock = v.ownBlock ∨ v'.ownBlock = some (w.heap.size + 1)) → (w.alloc (.cells cs 79)).grownBy w' v.ownBlock → wpList P ops Q rest (a.put o.dst v') w') :
 wpList P ops Q (o :: rest) a (w.alloc (.cells cs 79)) := by
 subst hcs hm hby
 refine wpList_app_any hgd s x t ho hE w0 _ v l.length (l.flatMap icells) hs (World.ownsRow.alloc hown _) (Ext_alloc _ he) (ys.flatMap icells) (some ⟨w.heap.size, 0, none⟩) ys.length c hx (icells_len ys) (fun _ => ⟨_, rfl, fun j u hj => ?_⟩) (icells_one ys) (by simp only [maxLen]; omega) (by omega) ?_
 ·rw [World.cell?_alloc_at']; exact hj
 ·intro v' w' h1 h2 h3 h4
  exact h v' w' (by unfold OwnI; rw [List.length_append, List.flatMap_append]; exact h1) h2 (by simpa using h3) h4
end
structure BoxRow (W0 w : World) (g : Nat) (cs : Array Value) (v : Value) (l : List Ins) : Prop where
 box : Box w g cs 96
 own : OwnI W0 w v l
 ne : v.ownBlock ≠ some g
 ext : Ext W0 w
theorem BoxRow.ext' {W0 w w' : World} {g : Nat} {cs : Array Value} {v : Value} {l : List Ins} (h : BoxRow W0 w g cs v l) (e : Ext w w') : BoxRow W0 w' g cs v l := ⟨h.box.ext e, h.own.ext e, h.ne, h.ext.trans e⟩
theorem BoxRow.app {W0 w w' : World} {g : Nat} {cs cs' : Array Value} {v v' : Value} {l l' : List Ins} {T : TypeId} (h : BoxRow W0 w g cs v l) (ho : OwnI W0 w' v' l') (he : Ext W0 w') (hv : v'.ownBlock = v.ownBlock ∨ v'.ownBlock = some (w.heap.size + 1)) (hg : (w.alloc (.cells cs' T)).grownBy w' v.ownBlock) : BoxRow W0 w' g cs v' l' :=
 ⟨(h.box.ext (Ext_alloc _ (Ext.refl _))).moved hg h.ne, ho, by
  rcases hv with hv | hv
  ·rw [hv]; exact h.ne
  ·rw [hv]; have := h.box.lt; intro hh; injection hh with hh; omega, he⟩
theorem sRuleC_2 (A : Option Addr) (ds : List DRule) (c : Nat) (hok : descOk ds = true) (i : Nat) (hi : i < ds.length) (E : Option Addr) (es : List Int) (ec : Nat) (start : Nat) (w : World)
 (hd : RdD w A ds c) (hs : ShortD ds) (hw : WfD ds) (hE : Is w E es ec) (hes : i ≤ es.length) (hst : start ≤ 100000) (hkd : ds[i].kind = 2) :
 Calls Tryz.prog 44 #[vdesc (.slice A ds.length c), .int .i64 (i : Int), .int .i64 (start : Int), .slice E es.length ec] w (cRuleRes w (ruleC ds[i] start es)) := by
 unfold cRuleRes
 have hl := hE.len; have hdl := hd.len; have hdc := hd.cap
 have HKF := Lib.hid (kids_facts hok i hi hes)
 have HCF := code_facts hok i hi
 have HKL := kids_len hok i hi
 have KN : Hid (∀ w', Ext w w' → Gives Tryz.prog 70 #[.agg #[.slice A ds.length c], .int .i64 (i : Int)] w' (.bool true)) := fun w' e => by
  have := sKnown_c A ds c (i : Int) w' (hd.ext e) hs hw
  rw [known_at hok i hi] at this; exact this
 obtain ⟨b, off, Rb, rb, Rn, rn, Rt, rt, Rk, rk, rfl, hb, hS, hR⟩ := hd.at i hi
 obtain ⟨m0, m1, m2, m3, m4, m5, m6, m7⟩ := hR
 have HS := Lib.hid hS
 generalize ds[i] = r at *
 obtain ⟨W0, hW0⟩ : ∃ W, Hid (W = w.alloc (.cells #[.slice (some ⟨b, off, none⟩) ds.length c] 26)) := ⟨_, rfl⟩
 have e0 : Ext w W0 := ka hW0
 have BD : Box W0 w.heap.size #[.slice (some ⟨b, off, none⟩) ds.length c] 26 := kb hW0
 have kD : ∀ w', Ext W0 w' → w'.cell? ⟨w.heap.size, 0, none⟩ = some (Value.slice (some ⟨b, off, none⟩) ds.length c) := fun w' e => BD.at 0 w' e
 have hsz : W0.heap.size = w.heap.size + 1 := by rw [hW0.out]; simp
 have OE := OwnI.empty (Ext.refl W0)
 have X1 := Ext_alloc (.cells #[] 79) (Ext.refl W0)
 have d0 := kD _ X1
 rw [hW0.out] at d0
 rw [hsz] at OE
 have HOE := Lib.hid OE; have HX1 := Lib.hid X1
 have h1 := r.kind
 have CO := Lib.hid (fun o a b w => sOp_c o a b w)
 have HKA : Hid (∀ t, (ht : t < r.kids.length) → r.kids[t] = ((kd r t : Nat) : Int)) := fun t ht => vrule_kids HKF.out ht
 have CC : Hid (∀ t, (ht : t < r.kids.length) → ∀ w', Ext w w' → Gives Tryz.prog 75 #[.slice E es.length ec, .int .i64 ((kd r t : Nat) : Int)] w' (.agg #[.int .i64 9, .int .i64 (callI r es t).2.1, .int .i64 0])) := fun t ht w' e => by
  have h1 := (HKF.out t ht).1
  have := sCall_c E es ec (kd r t) h1 w' (hE.ext e)
  rw [callI_at h1]; exact this
 have HEI := Lib.hid hE
 have hi' : (i : Int) < (ds.length : Int) := by omega
 have hes' : decide ((es.length : Int) < (i : Int)) = false := by simp; omega
 have hesN : decide (es.length < i) = false := by simp; omega
 clear hS hd hs hw hE BD OE X1 h1 hes hsz hi
 have hb16 : r.bytes.length ≤ 16 := HCF.1 hkd
 have HR : Hid (ruleC r start es = (r.bytes).map (fun b => ((2, (b.toNat : Int), 0) : Ins)) ++ [(10, 0, 0)]) := by show _ = _; unfold ruleC bodyC; rw [if_neg (by omega), if_pos hkd]
 clear HKL HCF
 unfold vdesc
 go_enter Tryz.func44, Tryz.ntmps44
 go_wp2_with fail
 rw [← hW0.out]
 refine (KN.out _ (e0.trans HX1.out)).mono ?_; rintro _ w1 ⟨rfl, e1⟩
 have E1 : Ext W0 w1 := HX1.out.trans e1
 have HO1 := Lib.hid (HOE.out.ext e1)
 have E01 := e0.trans E1
 have g0 := kD w1 E1; have g1 := m1 w1 E01; have g2 := m2 w1 E01; have g3 := m3 w1 E01; have g4 := m4 w1 E01; have g5 := m5 w1 E01; have g6 := m6 w1 E01; have g7 := m7 w1 E01; have g8 := m0 w1 E01
 obtain ⟨W2, hW2⟩ : ∃ W, Hid (W = w1.alloc (.cells #[.string r.nm, .int .i64 2, .int .i64 r.size, .bool r.little, .slice Rb r.bytes.length rb, .slice Rn r.names.length rn, .slice Rt r.tags.length rt, .slice Rk r.kids.length rk] 96)) := ⟨_, rfl⟩
 have e2 : Ext w1 W2 := ka hW2
 have BR : Box W2 w1.heap.size #[.string r.nm, .int .i64 2, .int .i64 r.size, .bool r.little, .slice Rb r.bytes.length rb, .slice Rn r.names.length rn, .slice Rt r.tags.length rt, .slice Rk r.kids.length rk] 96 := kb hW2
 have E2 : Ext W0 W2 := E1.trans e2
 have E02 : Ext w W2 := e0.trans E2
 have k0 : ∀ w', Ext W2 w' → _ = some (Value.string r.nm) := fun w' e => BR.at 0 w' e
 have k1 : ∀ w', Ext W2 w' → _ = some (Value.int .i64 2) := fun w' e => BR.at 1 w' e
 have k2 : ∀ w', Ext W2 w' → _ = some (Value.int .i64 r.size) := fun w' e => BR.at 2 w' e
 have k3 : ∀ w', Ext W2 w' → _ = some (Value.bool r.little) := fun w' e => BR.at 3 w' e
 have k4 : ∀ w', Ext W2 w' → _ = some (Value.slice Rb r.bytes.length rb) := fun w' e => BR.at 4 w' e
 have k5 : ∀ w', Ext W2 w' → _ = some (Value.slice Rn r.names.length rn) := fun w' e => BR.at 5 w' e
 have k6 : ∀ w', Ext W2 w' → _ = some (Value.slice Rt r.tags.length rt) := fun w' e => BR.at 6 w' e
 have k7 : ∀ w', Ext W2 w' → _ = some (Value.slice Rk r.kids.length rk) := fun w' e => BR.at 7 w' e
 have HO2 := Lib.hid (HO1.out.ext e2)
 have hne1 : w.heap.size + 1 ≠ w1.heap.size := by have h1 := e1.size; simp at h1; rw [hW0.out] at h1; simp at h1; omega
 have HNE := Lib.hid hne1; clear hne1
 have u1 := k1 W2 (Ext.refl _)
 rw [hW2.out] at u1
 rw [hkd] at g1
 clear HO1 HOE d0 m0 m1 m2 m3 m4 m5 m6 m7 HX1 KN
 have HBX : Hid (BoxRow W0 W2 w1.heap.size #[.string r.nm, .int .i64 2, .int .i64 r.size, .bool r.little, .slice Rb r.bytes.length rb, .slice Rn r.names.length rn, .slice Rt r.tags.length rt, .slice Rk r.kids.length rk] (.slice (some ⟨w.heap.size + 1, 0, none⟩) 0 0) []) := ⟨BR, HO2.out, by show some _ ≠ _; intro hh; injection hh with hh; exact HNE.out hh, E2⟩
 clear HO2 BR
 go_wp2_with fail
 rw [← hW2.out]
 clear hes' hesN hi'
 go_loopw [9, 11] (fun v q wr => ∃ k : Nat, k ≤ r.bytes.length ∧ q = .int .i64 (k : Int) ∧ Hid (BoxRow W0 wr w1.heap.size #[.string r.nm, .int .i64 2, .int .i64 r.size, .bool r.little, .slice Rb r.bytes.length rb, .slice Rn r.names.length rn, .slice Rt r.tags.length rt, .slice Rk r.kids.length rk] v ((r.bytes.take (k)).map (fun b => ((2, (b.toNat : Int), 0) : Ins))))) (fun _ q _ => r.bytes.length - (intOf q).toNat)
 case atStart => exact ⟨0, by omega, rfl, HBX.out⟩
 case round =>
  clear HBX
  obtain ⟨k, hk, rfl, hB⟩ := hrel
  have bx := hB.out.box
  have b4 : wr.cell? ⟨w1.heap.size, 4, none⟩ = some (Value.slice Rb r.bytes.length rb) := bx.cell 4
  have b7 : wr.cell? ⟨w1.heap.size, 7, none⟩ = some (Value.slice Rk r.kids.length rk) := bx.cell 7
  by_cases hlt : k < r.bytes.length
  ·obtain ⟨bt, ot, hRb, hbt, hct⟩ := HS.out.b.at k hlt
   rw [hRb] at b4
   have hct' : wr.cell? ⟨bt, ot + k, none⟩ = some (.int .u8 r.bytes[k].toNat) := hct wr (e0.trans hB.out.ext)
   have hb8 := r.bytes[k].toNat_lt
   have HB : Hid (((r.bytes.take (k)).map (fun b => ((2, (b.toNat : Int), 0) : Ins))).length + [((2 : Int), (r.bytes[k].toNat : Int), (0 : Int))].length ≤ 1000000) := by show _ ≤ _; simp; omega
   have HT : Hid ((r.bytes.take (k)).map (fun b => ((2, (b.toNat : Int), 0) : Ins)) ++ [((2 : Int), (r.bytes[k].toNat : Int), (0 : Int))] = (r.bytes.take (k + 1)).map (fun b => ((2, (b.toNat : Int), 0) : Ins))) := take_snoc' _ _ _ hlt
   generalize r.bytes[k] = x at *
   clear hct hRb
   clear bx
   go_wp2_with fail
   refine (CO.out 2 (x.toNat : Int) 0 _).mono ?_; rintro _ w5 ⟨rfl, e5⟩
   have HB5 := Lib.hid (hB.out.ext' e5)
   go_wp2_with (first
    | (at_builtin; go_must (refine wpList_appIE rfl (.tmp 60) (.tmp 68) _ rfl E_ins W0 w5 u9 ((r.bytes.take (k)).map (fun b => ((2, (b.toNat : Int), 0) : Ins))) [((2 : Int), (x.toNat : Int), (0 : Int))] rfl HB5.out.own HB5.out.ext _ rfl 1 1 rfl rfl rfl HB.out ?_); intro v3 w3 ho3 he3 hv3 hg3; rw [HT.out] at ho3))
   have HN := Lib.hid (HB5.out.app ho3 he3 hv3 hg3)
   clear ho3 he3 hv3 hg3 HB5 HB HT
   go_roundw
   case rel => exact ⟨k + 1, by omega, by go_num, HN.out⟩
   case measure => simp [intOf]; omega
  ·obtain rfl : k = r.bytes.length := by omega
   have ho7 := hB.out.own
   rw [List.take_length] at ho7
   have he7 := hB.out.ext
   have HBT : Hid ((r.bytes.map fun b => ((2, (b.toNat : Int), 0) : Ins)).length + [((10 : Int), (0 : Int), (0 : Int))].length ≤ 1000000) := by show _ ≤ _; simp; omega
   clear hB bx
   go_wp2_with fail
   refine (CO.out 10 0 0 _).mono ?_; rintro _ w8 ⟨rfl, e8⟩
   have HO8 := Lib.hid (ho7.ext e8)
   have he8 := he7.trans e8
   go_wp2_with (first
    | (at_builtin; go_must (refine wpList_appI rfl (.tmp 167) (.tmp 169) _ rfl E_ins W0 w8 u9 (r.bytes.map fun b => ((2, (b.toNat : Int), 0) : Ins)) [(10, 0, 0)] rfl HO8.out he8 _ rfl 1 1 rfl rfl rfl HBT.out ?_); intro v9 w9 ho9 he9))
   go_ret
   exact ⟨_, rfl, (by rw [HR.out]; exact ho9.down e0.size), e0.trans he9⟩
theorem sRuleC_6 (A : Option Addr) (ds : List DRule) (c : Nat) (hok : descOk ds = true) (i : Nat) (hi : i < ds.length) (E : Option Addr) (es : List Int) (ec : Nat) (start : Nat) (w : World)
 (hd : RdD w A ds c) (hs : ShortD ds) (hw : WfD ds) (hE : Is w E es ec) (hes : i ≤ es.length) (hst : start ≤ 100000) (hkd : ds[i].kind = 6) :
 Calls Tryz.prog 44 #[vdesc (.slice A ds.length c), .int .i64 (i : Int), .int .i64 (start : Int), .slice E es.length ec] w (cRuleRes w (ruleC ds[i] start es)) := by
 unfold cRuleRes
 have hl := hE.len; have hdl := hd.len; have hdc := hd.cap
 have HKF := Lib.hid (kids_facts hok i hi hes)
 have HCF := code_facts hok i hi
 have HKL := kids_len hok i hi
 have KN : Hid (∀ w', Ext w w' → Gives Tryz.prog 70 #[.agg #[.slice A ds.length c], .int .i64 (i : Int)] w' (.bool true)) := fun w' e => by
  have := sKnown_c A ds c (i : Int) w' (hd.ext e) hs hw
  rw [known_at hok i hi] at this; exact this
 obtain ⟨b, off, Rb, rb, Rn, rn, Rt, rt, Rk, rk, rfl, hb, hS, hR⟩ := hd.at i hi
 obtain ⟨m0, m1, m2, m3, m4, m5, m6, m7⟩ := hR
 have HS := Lib.hid hS
 generalize ds[i] = r at *
 obtain ⟨W0, hW0⟩ : ∃ W, Hid (W = w.alloc (.cells #[.slice (some ⟨b, off, none⟩) ds.length c] 26)) := ⟨_, rfl⟩
 have e0 : Ext w W0 := ka hW0
 have BD : Box W0 w.heap.size #[.slice (some ⟨b, off, none⟩) ds.length c] 26 := kb hW0
 have kD : ∀ w', Ext W0 w' → w'.cell? ⟨w.heap.size, 0, none⟩ = some (Value.slice (some ⟨b, off, none⟩) ds.length c) := fun w' e => BD.at 0 w' e
 have hsz : W0.heap.size = w.heap.size + 1 := by rw [hW0.out]; simp
 have OE := OwnI.empty (Ext.refl W0)
 have X1 := Ext_alloc (.cells #[] 79) (Ext.refl W0)
 have d0 := kD _ X1
 rw [hW0.out] at d0
 rw [hsz] at OE
 have HOE := Lib.hid OE; have HX1 := Lib.hid X1
 have h1 := r.kind
 have CO := Lib.hid (fun o a b w => sOp_c o a b w)
 have HKA : Hid (∀ t, (ht : t < r.kids.length) → r.kids[t] = ((kd r t : Nat) : Int)) := fun t ht => vrule_kids HKF.out ht
 have CC : Hid (∀ t, (ht : t < r.kids.length) → ∀ w', Ext w w' → Gives Tryz.prog 75 #[.slice E es.length ec, .int .i64 ((kd r t : Nat) : Int)] w' (.agg #[.int .i64 9, .int .i64 (callI r es t).2.1, .int .i64 0])) := fun t ht w' e => by
  have h1 := (HKF.out t ht).1
  have := sCall_c E es ec (kd r t) h1 w' (hE.ext e)
  rw [callI_at h1]; exact this
 have HEI := Lib.hid hE
 have hi' : (i : Int) < (ds.length : Int) := by omega
 have hes' : decide ((es.length : Int) < (i : Int)) = false := by simp; omega
 have hesN : decide (es.length < i) = false := by simp; omega
 clear hS hd hs hw hE BD OE X1 h1 hes hsz hi
 have hb16 : r.kids.length ≤ 8 := HCF.2.1 hkd
 have HR : Hid (ruleC r start es = (List.range (r.kids.length)).map (callI r es) ++ [(10, 0, 0)]) := by show _ = _; unfold ruleC bodyC; rw [if_neg (by omega), if_neg (by omega), if_neg (by omega), if_neg (by omega), if_neg (by omega), if_pos hkd]
 clear HKL HCF
 unfold vdesc
 go_enter Tryz.func44, Tryz.ntmps44
 go_wp2_with fail
 rw [← hW0.out]
 refine (KN.out _ (e0.trans HX1.out)).mono ?_; rintro _ w1 ⟨rfl, e1⟩
 have E1 : Ext W0 w1 := HX1.out.trans e1
 have HO1 := Lib.hid (HOE.out.ext e1)
 have E01 := e0.trans E1
 have g0 := kD w1 E1; have g1 := m1 w1 E01; have g2 := m2 w1 E01; have g3 := m3 w1 E01; have g4 := m4 w1 E01; have g5 := m5 w1 E01; have g6 := m6 w1 E01; have g7 := m7 w1 E01; have g8 := m0 w1 E01
 obtain ⟨W2, hW2⟩ : ∃ W, Hid (W = w1.alloc (.cells #[.string r.nm, .int .i64 6, .int .i64 r.size, .bool r.little, .slice Rb r.bytes.length rb, .slice Rn r.names.length rn, .slice Rt r.tags.length rt, .slice Rk r.kids.length rk] 96)) := ⟨_, rfl⟩
 have e2 : Ext w1 W2 := ka hW2
 have BR : Box W2 w1.heap.size #[.string r.nm, .int .i64 6, .int .i64 r.size, .bool r.little, .slice Rb r.bytes.length rb, .slice Rn r.names.length rn, .slice Rt r.tags.length rt, .slice Rk r.kids.length rk] 96 := kb hW2
 have E2 : Ext W0 W2 := E1.trans e2
 have E02 : Ext w W2 := e0.trans E2
 have k0 : ∀ w', Ext W2 w' → _ = some (Value.string r.nm) := fun w' e => BR.at 0 w' e
 have k1 : ∀ w', Ext W2 w' → _ = some (Value.int .i64 6) := fun w' e => BR.at 1 w' e
 have k2 : ∀ w', Ext W2 w' → _ = some (Value.int .i64 r.size) := fun w' e => BR.at 2 w' e
 have k3 : ∀ w', Ext W2 w' → _ = some (Value.bool r.little) := fun w' e => BR.at 3 w' e
 have k4 : ∀ w', Ext W2 w' → _ = some (Value.slice Rb r.bytes.length rb) := fun w' e => BR.at 4 w' e
 have k5 : ∀ w', Ext W2 w' → _ = some (Value.slice Rn r.names.length rn) := fun w' e => BR.at 5 w' e
 have k6 : ∀ w', Ext W2 w' → _ = some (Value.slice Rt r.tags.length rt) := fun w' e => BR.at 6 w' e
 have k7 : ∀ w', Ext W2 w' → _ = some (Value.slice Rk r.kids.length rk) := fun w' e => BR.at 7 w' e
 have HO2 := Lib.hid (HO1.out.ext e2)
 have hne1 : w.heap.size + 1 ≠ w1.heap.size := by have h1 := e1.size; simp at h1; rw [hW0.out] at h1; simp at h1; omega
 have HNE := Lib.hid hne1; clear hne1
 have u1 := k1 W2 (Ext.refl _)
 rw [hW2.out] at u1
 rw [hkd] at g1
 clear HO1 HOE d0 m0 m1 m2 m3 m4 m5 m6 m7 HX1 KN
 have HBX : Hid (BoxRow W0 W2 w1.heap.size #[.string r.nm, .int .i64 6, .int .i64 r.size, .bool r.little, .slice Rb r.bytes.length rb, .slice Rn r.names.length rn, .slice Rt r.tags.length rt, .slice Rk r.kids.length rk] (.slice (some ⟨w.heap.size + 1, 0, none⟩) 0 0) []) := ⟨BR, HO2.out, by show some _ ≠ _; intro hh; injection hh with hh; exact HNE.out hh, E2⟩
 clear HO2 BR
 go_wp2_with fail
 rw [← hW2.out]
 clear hes' hesN hi'
 go_loopw [9, 12] (fun v q wr => ∃ k : Nat, k ≤ r.kids.length ∧ q = .int .i64 (k : Int) ∧ Hid (BoxRow W0 wr w1.heap.size #[.string r.nm, .int .i64 6, .int .i64 r.size, .bool r.little, .slice Rb r.bytes.length rb, .slice Rn r.names.length rn, .slice Rt r.tags.length rt, .slice Rk r.kids.length rk] v ((List.range (k)).map (callI r es)))) (fun _ q _ => r.kids.length - (intOf q).toNat)
 case atStart => exact ⟨0, by omega, rfl, HBX.out⟩
 case round =>
  clear HBX
  obtain ⟨k, hk, rfl, hB⟩ := hrel
  have bx := hB.out.box
  have b4 : wr.cell? ⟨w1.heap.size, 4, none⟩ = some (Value.slice Rb r.bytes.length rb) := bx.cell 4
  have b7 : wr.cell? ⟨w1.heap.size, 7, none⟩ = some (Value.slice Rk r.kids.length rk) := bx.cell 7
  by_cases hlt : k < r.kids.length
  ·obtain ⟨bt, ot, hRk, hbt, hct⟩ := HS.out.k.at k hlt
   rw [hRk] at b7
   rw [HKA.out k hlt] at hct
   have hct' : wr.cell? ⟨bt, ot + k, none⟩ = some (.int .i64 ((kd r k : Nat) : Int)) := hct wr (e0.trans hB.out.ext)
   have CK := Lib.hid (CC.out k hlt)
   have HB : Hid (((List.range (k)).map (callI r es)).length + [callI r es k].length ≤ 1000000) := by show _ ≤ _; simp; omega
   have HT : Hid ((List.range (k)).map (callI r es) ++ [callI r es k] = (List.range (k + 1)).map (callI r es)) := range_snoc _ _
   clear hct hRk
   clear bx
   go_wp2_with fail
   refine (CK.out _ (e0.trans hB.out.ext)).mono ?_; rintro _ w5 ⟨rfl, e5⟩
   have HB5 := Lib.hid (hB.out.ext' e5)
   go_wp2_with (first
    | (at_builtin; go_must (refine wpList_appIE rfl (.tmp 124) (.tmp 132) _ rfl E_ins W0 w5 u9 ((List.range (k)).map (callI r es)) [callI r es k] rfl HB5.out.own HB5.out.ext _ rfl 1 1 rfl rfl rfl HB.out ?_); intro v3 w3 ho3 he3 hv3 hg3; rw [HT.out] at ho3))
   have HN := Lib.hid (HB5.out.app ho3 he3 hv3 hg3)
   clear ho3 he3 hv3 hg3 HB5 HB HT
   go_roundw
   case rel => exact ⟨k + 1, by omega, by go_num, HN.out⟩
   case measure => simp [intOf]; omega
  ·obtain rfl : k = r.kids.length := by omega
   have ho7 := hB.out.own
   skip
   have he7 := hB.out.ext
   have HBT : Hid (((List.range (r.kids.length)).map (callI r es)).length + [((10 : Int), (0 : Int), (0 : Int))].length ≤ 1000000) := by show _ ≤ _; simp; omega
   clear hB bx
   go_wp2_with fail
   refine (CO.out 10 0 0 _).mono ?_; rintro _ w8 ⟨rfl, e8⟩
   have HO8 := Lib.hid (ho7.ext e8)
   have he8 := he7.trans e8
   go_wp2_with (first
    | (at_builtin; go_must (refine wpList_appI rfl (.tmp 167) (.tmp 169) _ rfl E_ins W0 w8 u9 ((List.range (r.kids.length)).map (callI r es)) [(10, 0, 0)] rfl HO8.out he8 _ rfl 1 1 rfl rfl rfl HBT.out ?_); intro v9 w9 ho9 he9))
   go_ret
   exact ⟨_, rfl, (by rw [HR.out]; exact ho9.down e0.size), e0.trans he9⟩
theorem sRuleC_7 (A : Option Addr) (ds : List DRule) (c : Nat) (hok : descOk ds = true) (i : Nat) (hi : i < ds.length) (E : Option Addr) (es : List Int) (ec : Nat) (start : Nat) (w : World)
 (hd : RdD w A ds c) (hs : ShortD ds) (hw : WfD ds) (hE : Is w E es ec) (hes : i ≤ es.length) (hst : start ≤ 100000) (hkd : ds[i].kind = 7) :
 Calls Tryz.prog 44 #[vdesc (.slice A ds.length c), .int .i64 (i : Int), .int .i64 (start : Int), .slice E es.length ec] w (cRuleRes w (ruleC ds[i] start es)) := by
 unfold cRuleRes
 have hl := hE.len; have hdl := hd.len; have hdc := hd.cap
 have HKF := Lib.hid (kids_facts hok i hi hes)
 have HCF := code_facts hok i hi
 have HKL := kids_len hok i hi
 have KN : Hid (∀ w', Ext w w' → Gives Tryz.prog 70 #[.agg #[.slice A ds.length c], .int .i64 (i : Int)] w' (.bool true)) := fun w' e => by
  have := sKnown_c A ds c (i : Int) w' (hd.ext e) hs hw
  rw [known_at hok i hi] at this; exact this
 obtain ⟨b, off, Rb, rb, Rn, rn, Rt, rt, Rk, rk, rfl, hb, hS, hR⟩ := hd.at i hi
 obtain ⟨m0, m1, m2, m3, m4, m5, m6, m7⟩ := hR
 have HS := Lib.hid hS
 generalize ds[i] = r at *
 obtain ⟨W0, hW0⟩ : ∃ W, Hid (W = w.alloc (.cells #[.slice (some ⟨b, off, none⟩) ds.length c] 26)) := ⟨_, rfl⟩
 have e0 : Ext w W0 := ka hW0
 have BD : Box W0 w.heap.size #[.slice (some ⟨b, off, none⟩) ds.length c] 26 := kb hW0
 have kD : ∀ w', Ext W0 w' → w'.cell? ⟨w.heap.size, 0, none⟩ = some (Value.slice (some ⟨b, off, none⟩) ds.length c) := fun w' e => BD.at 0 w' e
 have hsz : W0.heap.size = w.heap.size + 1 := by rw [hW0.out]; simp
 have OE := OwnI.empty (Ext.refl W0)
 have X1 := Ext_alloc (.cells #[] 79) (Ext.refl W0)
 have d0 := kD _ X1
 rw [hW0.out] at d0
 rw [hsz] at OE
 have HOE := Lib.hid OE; have HX1 := Lib.hid X1
 have h1 := r.kind
 have CO := Lib.hid (fun o a b w => sOp_c o a b w)
 have HKA : Hid (∀ t, (ht : t < r.kids.length) → r.kids[t] = ((kd r t : Nat) : Int)) := fun t ht => vrule_kids HKF.out ht
 have CC : Hid (∀ t, (ht : t < r.kids.length) → ∀ w', Ext w w' → Gives Tryz.prog 75 #[.slice E es.length ec, .int .i64 ((kd r t : Nat) : Int)] w' (.agg #[.int .i64 9, .int .i64 (callI r es t).2.1, .int .i64 0])) := fun t ht w' e => by
  have h1 := (HKF.out t ht).1
  have := sCall_c E es ec (kd r t) h1 w' (hE.ext e)
  rw [callI_at h1]; exact this
 have HEI := Lib.hid hE
 have hi' : (i : Int) < (ds.length : Int) := by omega
 have hes' : decide ((es.length : Int) < (i : Int)) = false := by simp; omega
 have hesN : decide (es.length < i) = false := by simp; omega
 clear hS hd hs hw hE BD OE X1 h1 hes hsz hi
 have hb8 : r.tags.length ≤ 8 := HCF.2.2.1 hkd
 have HK7 := Lib.hid (HKL.2.2.2.1 hkd).1
 have HR : Hid (ruleC r start es = choC r start es ++ [(10, 0, 0)]) := by show _ = _; unfold ruleC bodyC; rw [if_neg (by omega), if_neg (by omega), if_neg (by omega), if_neg (by omega), if_neg (by omega), if_neg (by omega), if_pos hkd]
 clear HKL HCF
 unfold vdesc
 go_enter Tryz.func44, Tryz.ntmps44
 go_wp2_with fail
 rw [← hW0.out]
 refine (KN.out _ (e0.trans HX1.out)).mono ?_; rintro _ w1 ⟨rfl, e1⟩
 have E1 : Ext W0 w1 := HX1.out.trans e1
 have HO1 := Lib.hid (HOE.out.ext e1)
 have E01 := e0.trans E1
 have g0 := kD w1 E1; have g1 := m1 w1 E01; have g2 := m2 w1 E01; have g3 := m3 w1 E01; have g4 := m4 w1 E01; have g5 := m5 w1 E01; have g6 := m6 w1 E01; have g7 := m7 w1 E01; have g8 := m0 w1 E01
 obtain ⟨W2, hW2⟩ : ∃ W, Hid (W = w1.alloc (.cells #[.string r.nm, .int .i64 7, .int .i64 r.size, .bool r.little, .slice Rb r.bytes.length rb, .slice Rn r.names.length rn, .slice Rt r.tags.length rt, .slice Rk r.kids.length rk] 96)) := ⟨_, rfl⟩
 have e2 : Ext w1 W2 := ka hW2
 have BR : Box W2 w1.heap.size #[.string r.nm, .int .i64 7, .int .i64 r.size, .bool r.little, .slice Rb r.bytes.length rb, .slice Rn r.names.length rn, .slice Rt r.tags.length rt, .slice Rk r.kids.length rk] 96 := kb hW2
 have E2 : Ext W0 W2 := E1.trans e2
 have E02 : Ext w W2 := e0.trans E2
 have k0 : ∀ w', Ext W2 w' → _ = some (Value.string r.nm) := fun w' e => BR.at 0 w' e
 have k1 : ∀ w', Ext W2 w' → _ = some (Value.int .i64 7) := fun w' e => BR.at 1 w' e
 have k2 : ∀ w', Ext W2 w' → _ = some (Value.int .i64 r.size) := fun w' e => BR.at 2 w' e
 have k3 : ∀ w', Ext W2 w' → _ = some (Value.bool r.little) := fun w' e => BR.at 3 w' e
 have k4 : ∀ w', Ext W2 w' → _ = some (Value.slice Rb r.bytes.length rb) := fun w' e => BR.at 4 w' e
 have k5 : ∀ w', Ext W2 w' → _ = some (Value.slice Rn r.names.length rn) := fun w' e => BR.at 5 w' e
 have k6 : ∀ w', Ext W2 w' → _ = some (Value.slice Rt r.tags.length rt) := fun w' e => BR.at 6 w' e
 have k7 : ∀ w', Ext W2 w' → _ = some (Value.slice Rk r.kids.length rk) := fun w' e => BR.at 7 w' e
 have HO2 := Lib.hid (HO1.out.ext e2)
 have hne1 : w.heap.size + 1 ≠ w1.heap.size := by have h1 := e1.size; simp at h1; rw [hW0.out] at h1; simp at h1; omega
 have HNE := Lib.hid hne1; clear hne1
 have u1 := k1 W2 (Ext.refl _)
 rw [hW2.out] at u1
 rw [hkd] at g1
 clear HO1 HOE d0 m0 m1 m2 m3 m4 m5 m6 m7 HX1 KN
 have CH : Hid (∀ w', Ext w w' → Calls Tryz.prog 76 #[.agg #[.string r.nm, .int .i64 7, .int .i64 r.size, .bool r.little, .slice Rb r.bytes.length rb, .slice Rn r.names.length rn, .slice Rt r.tags.length rt, .slice Rk r.kids.length rk], .int .i64 (start : Int), .slice E es.length ec] w' fun e w'' => ∃ v, e = .returned v ∧ OwnI w' w'' v (choC r start es) ∧ Ext w' w'') := fun w' e => by
  have := sChoice_c E es ec r Rb rb Rn rn Rt rt Rk rk start w' (HEI.out.ext e) (HS.out.ext e) HK7.out HKF.out hb8 hst
  unfold vrule at this; rwa [hkd] at this
 have HBT : Hid ((choC r start es).length + [((10 : Int), (0 : Int), (0 : Int))].length ≤ 1000000) := by
  show _ ≤ _
  have h1 := tagsC_len r start r.tags.length; have h2 := altsC_len r es r.tags.length
  unfold choC; simp; omega
 go_wp2_with fail
 rw [← hW2.out]
 refine (CH.out _ E02).mono ?_; rintro _ w5 ⟨v7, rfl, ho5, e5⟩
 have ho7 : OwnI W0 w5 v7 (choC r start es) := ho5.down E2.size
 have he7 := E2.trans e5
 clear ho5
 go_wp2_with fail
 refine (CO.out 10 0 0 _).mono ?_; rintro _ w8 ⟨rfl, e8⟩
 have HO8 := Lib.hid (ho7.ext e8)
 have he8 := he7.trans e8
 go_wp2_with (first
  | (at_builtin; go_must (refine wpList_appI rfl (.tmp 167) (.tmp 169) _ rfl E_ins W0 w8 v7 (choC r start es) [(10, 0, 0)] rfl HO8.out he8 _ rfl 1 1 rfl rfl rfl HBT.out ?_); intro v9 w9 ho9 he9))
 go_ret
 exact ⟨_, rfl, (by rw [HR.out]; exact ho9.down e0.size), e0.trans he9⟩
theorem sRuleC_c (A : Option Addr) (ds : List DRule) (c : Nat) (hok : descOk ds = true) (i : Nat) (hi : i < ds.length) (E : Option Addr) (es : List Int) (ec : Nat) (start : Nat) (w : World)
 (hd : RdD w A ds c) (hs : ShortD ds) (hw : WfD ds) (hE : Is w E es ec) (hes : i ≤ es.length) (hst : start ≤ 100000) :
 Calls Tryz.prog 44 #[vdesc (.slice A ds.length c), .int .i64 (i : Int), .int .i64 (start : Int), .slice E es.length ec] w (cRuleRes w (ruleC ds[i] start es)) := by
 have hk := (ruleFacts hok i hi).kind
 rcases (by omega : ds[i].kind = 1 ∨ ds[i].kind = 2 ∨ ds[i].kind = 3 ∨ ds[i].kind = 4 ∨ ds[i].kind = 5 ∨ ds[i].kind = 6 ∨ ds[i].kind = 7 ∨ ds[i].kind = 8 ∨ ds[i].kind = 9 ∨ ds[i].kind = 10) with h | h | h | h | h | h | h | h | h | h
 ·exact sRuleC_1 A ds c hok i hi E es ec start w hd hs hw hE hes hst h
 ·exact sRuleC_2 A ds c hok i hi E es ec start w hd hs hw hE hes hst h
 ·exact sRuleC_3 A ds c hok i hi E es ec start w hd hs hw hE hes hst h
 ·exact sRuleC_4 A ds c hok i hi E es ec start w hd hs hw hE hes hst h
 ·exact sRuleC_5 A ds c hok i hi E es ec start w hd hs hw hE hes hst h
 ·exact sRuleC_6 A ds c hok i hi E es ec start w hd hs hw hE hes hst h
 ·exact sRuleC_7 A ds c hok i hi E es ec start w hd hs hw hE hes hst h
 ·exact sRuleC_8 A ds c hok i hi E es ec start w hd hs hw hE hes hst h
 ·exact sRuleC_9 A ds c hok i hi E es ec start w hd hs hw hE hes hst h
 ·exact sRuleC_10 A ds c hok i hi E es ec start w hd hs hw hE hes hst h
end Go.Proofs.YtpmcofmdjckijaaGreat
