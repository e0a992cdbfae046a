/- Texts, laid into one. -/
import Derived.Test.YtpmcofmdjckijaaGreatZPb20
import Derived.IntWalk
set_option linter.unusedVariables false
set_option linter.unusedSimpArgs false
set_option maxRecDepth 100000
set_option maxHeartbeats 16000000
namespace Go.Proofs.YtpmcofmdjckijaaGreat
theorem kids_len {ds : List DRule} (h : descOk ds = true) (i : Nat) (hi : i < ds.length) :
 (ds[i].kind = 4 → ds[i].kids.length = 1 ∧ 0 < limD ds (ds[i].kids.getD 0 0)) ∧ (ds[i].kind = 5 → ds[i].kids.length = 2 ∧ 0 < limD ds (ds[i].kids.getD 0 0)) ∧ (ds[i].kind = 6 → ds[i].names.length = ds[i].kids.length ∧ ∀ s ∈ ds[i].names, s.size ≤ 12) ∧
 (ds[i].kind = 7 → ds[i].kids.length = ds[i].tags.length + 1 ∧ ∀ j (hj : j < ds[i].tags.length), 0 ≤ ds[i].tags[j] ∧ ds[i].tags[j] ≤ limD ds (ds[i].kids.getD 0 0)) ∧ (ds[i].kind = 8 ∨ ds[i].kind = 9 → ds[i].kids.length = 1) ∧ (ds[i].kind = 1 → 1 ≤ ds[i].size ∧ ds[i].size ≤ 4) ∧ (ds[i].kind = 3 → 1 ≤ ds[i].size ∧ ds[i].size ≤ 64) := by
 have hk := ruleKind h i hi
 generalize ds[i] = r at *
 unfold kindOk at hk
 split at hk
 ·rename_i e
  simp only [Bool.and_eq_true, between, decide_eq_true_eq] at hk
  exact ⟨fun e' => by omega, fun e' => by omega, fun e' => by omega, fun e' => by omega, fun e' => by omega, fun _ => hk.1.2, fun e' => by omega⟩
 split at hk
 ·rename_i e
  exact ⟨fun e' => by omega, fun e' => by omega, fun e' => by omega, fun e' => by omega, fun e' => by omega, fun e' => by omega, fun e' => by omega⟩
 split at hk
 ·rename_i e
  simp only [Bool.and_eq_true, between, decide_eq_true_eq] at hk
  exact ⟨fun e' => by omega, fun e' => by omega, fun e' => by omega, fun e' => by omega, fun e' => by omega, fun e' => by omega, fun _ => hk.2⟩
 split at hk
 ·rename_i e
  simp only [Bool.and_eq_true, decide_eq_true_eq] at hk
  have f := (plainB_facts hk.1).2.2.2 (by omega)
  exact ⟨fun _ => ⟨by omega, hk.2⟩, fun e' => by omega, fun e' => by omega, fun e' => by omega, fun e' => by omega, fun e' => by omega, fun e' => by omega⟩
 split at hk
 ·rename_i e
  simp only [Bool.and_eq_true, decide_eq_true_eq] at hk
  have f := (plainB_facts hk.1).2.2.2 (by omega)
  exact ⟨fun e' => by omega, fun _ => ⟨by omega, hk.2⟩, fun e' => by omega, fun e' => by omega, fun e' => by omega, fun e' => by omega, fun e' => by omega⟩
 split at hk
 ·rename_i e
  unfold seqOk at hk
  simp only [Bool.and_eq_true, beq_iff_eq] at hk
  have hn := hk.2
  refine ⟨fun e' => by omega, fun e' => by omega, fun _ => ⟨hk.1.1.2.symm, fun s hs => ?_⟩, fun e' => by omega, fun e' => by omega, fun e' => by omega, fun e' => by omega⟩
  obtain ⟨k, hk', rfl⟩ := List.getElem_of_mem hs
  have := allN_at hn hk'
  unfold nameOk at this
  rw [List.getElem?_eq_getElem hk'] at this
  simp only [Bool.and_eq_true] at this
  have h2 := this.1
  unfold isName at h2
  simp only [Bool.and_eq_true, decide_eq_true_eq] at h2
  exact h2.1.2
 split at hk
 ·rename_i e
  unfold choOk at hk
  simp only [Bool.and_eq_true] at hk
  have f := (plainB_facts hk.1.1).2.2.2 (by omega)
  refine ⟨fun e' => by omega, fun e' => by omega, fun e' => by omega, fun _ => ⟨by omega, fun j hj => ?_⟩, fun e' => by omega, fun e' => by omega, fun e' => by omega⟩
  have := allN_at hk.2 hj
  unfold tagOk at this
  rw [List.getElem?_eq_getElem hj] at this
  simp only [Bool.and_eq_true, between, decide_eq_true_eq] at this
  exact this.1
 split at hk
 ·rename_i e
  have f := (plainB_facts hk).2.2.2 (by omega)
  exact ⟨fun e' => by omega, fun e' => by omega, fun e' => by omega, fun e' => by omega, fun _ => by omega, fun e' => by omega, fun e' => by omega⟩
 split at hk
 ·rename_i e
  have f := (plainB_facts hk).2.2.2 (by omega)
  exact ⟨fun e' => by omega, fun e' => by omega, fun e' => by omega, fun e' => by omega, fun _ => by omega, fun e' => by omega, fun e' => by omega⟩
 split at hk
 ·rename_i e
  exact ⟨fun e' => by omega, fun e' => by omega, fun e' => by omega, fun e' => by omega, fun e' => by omega, fun e' => by omega, fun e' => by omega⟩
 ·cases hk
abbrev Ins := Int × Int × Int
def callI (r : DRule) (es : List Int) (t : Nat) : Ins := (9, es.getD (kd r t) 0, 0)
def tagsC (r : DRule) (start : Int) (n : Nat) : List Ins := (List.range n).map fun i => (11, r.tags.getD i 0, start + (r.tags.length : Int) + 2 + 2 * (i : Int))
def altsC (r : DRule) (es : List Int) (n : Nat) : List Ins := (List.range n).flatMap fun i => callI r es (i + 1) :: (if i + 1 < r.tags.length then [(10, 0, 0)] else [])
def choC (r : DRule) (start : Int) (es : List Int) : List Ins := callI r es 0 :: (tagsC r start r.tags.length ++ (12, 3, 0) :: altsC r es r.tags.length)
def bodyC (r : DRule) (start : Int) (es : List Int) : List Ins :=
 if r.kind = 1 then [(1, r.size, if r.little then 1 else 0)]
 else if r.kind = 2 then r.bytes.map fun b => (2, (b.toNat : Int), 0)
 else if r.kind = 3 then [(3, r.size, 0)]
 else if r.kind = 4 then [callI r es 0, (4, 0, 0)]
 else if r.kind = 5 then [callI r es 0, (5, 40, 0), (6, 0, 0), (7, start + 6, 0), callI r es 1, (8, start + 3, 0)]
 else if r.kind = 6 then (List.range r.kids.length).map (callI r es)
 else if r.kind = 7 then choC r start es
 else if r.kind = 8 then [(13, start + 2, 0), callI r es 0]
 else if r.kind = 9 then [(14, 0, 0), callI r es 0, (15, 0, 0)]
 else [(16, ((r.bytes.getD 0 0).toNat : Int), 0)]
def ruleC (r : DRule) (start : Int) (es : List Int) : List Ins := bodyC r start es ++ [(10, 0, 0)]
def compN (ds : List DRule) : Nat → List Ins × List Int
 | 0 => ([(9, 0, 0), (17, 0, 0)], [])
 | k + 1 => ((compN ds k).1 ++ (match ds[k]? with | some r => ruleC r (compN ds k).1.length (compN ds k).2 | none => []), (compN ds k).2 ++ [((compN ds k).1.length : Int)])
def compD (ds : List DRule) : List Ins × List Int :=
 if descOk ds then ((compN ds ds.length).1.set 0 (9, (compN ds ds.length).2.getLastD 0, 0), (compN ds ds.length).2) else ([], [])
theorem tagsC_succ (r : DRule) (start : Int) (k : Nat) : tagsC r start (k + 1) = tagsC r start k ++ [(11, r.tags.getD k 0, start + (r.tags.length : Int) + 2 + 2 * (k : Int))] := by
 unfold tagsC; rw [List.range_succ, List.map_append]; rfl
theorem altsC_succ (r : DRule) (es : List Int) (k : Nat) : altsC r es (k + 1) = altsC r es k ++ (callI r es (k + 1) :: (if k + 1 < r.tags.length then [(10, 0, 0)] else [])) := by
 unfold altsC; rw [List.range_succ, List.flatMap_append, List.flatMap_cons, List.flatMap_nil, List.append_nil]
theorem tagsC_len (r : DRule) (start : Int) (k : Nat) : (tagsC r start k).length = k := by simp [tagsC]
theorem altsC_len (r : DRule) (es : List Int) (k : Nat) : (altsC r es k).length ≤ 2 * k := by
 induction k with
 | zero => simp [altsC]
 | succ k ih =>
  rw [altsC_succ, List.length_append, List.length_cons]
  split <;> simp <;> omega
theorem compN_ents (ds : List DRule) : ∀ k, (compN ds k).2.length = k
 | 0 => rfl
 | k + 1 => by rw [compN, List.length_append, compN_ents ds k]; rfl
theorem compN_succ (ds : List DRule) (k : Nat) (hk : k < ds.length) : compN ds (k + 1) = ((compN ds k).1 ++ ruleC ds[k] (compN ds k).1.length (compN ds k).2, (compN ds k).2 ++ [((compN ds k).1.length : Int)]) := by
 rw [compN, List.getElem?_eq_getElem hk]
def ruleM (r : DRule) : Nat := 10 + r.bytes.length + r.kids.length + 3 * r.tags.length
end Go.Proofs.YtpmcofmdjckijaaGreat
namespace Go.Proofs.YtpmcofmdjckijaaGreat
open Go.RowKit Go.Sort
def icells (x : Ins) : List Value := [.int .i64 x.1, .int .i64 x.2.1, .int .i64 x.2.2]
theorem icells_len (l : List Ins) : (l.flatMap icells).length = l.length * 3 := by
 induction l with
 | nil => rfl
 | cons x t ih => rw [List.flatMap_cons, List.length_append, ih, List.length_cons]; simp [icells]; omega
theorem icells_one (l : List Ins) : ∀ u ∈ l.flatMap icells, u.oneCell' = true := by
 intro u hu
 obtain ⟨x, _, hx⟩ := List.mem_flatMap.1 hu
 simp [icells] at hx
 rcases hx with rfl | rfl | rfl <;> rfl
theorem E_ins : Elem Tryz.prog 52 79 3 24 (.agg #[.int .i64 0, .int .i64 0, .int .i64 0]) := ⟨Tryz.underlying52, by kernel_rfl, rfl, by omega⟩
def OwnI (w0 w : World) (v : Value) (l : List Ins) : Prop := Own 79 3 w0 w v l.length (l.flatMap icells)
theorem OwnI.ext {w0 w w' : World} {v : Value} {l : List Ins} (h : OwnI w0 w v l) (e : Ext w w') : OwnI w0 w' v l := Own.ext h e
theorem OwnI.down {w0 w1 w : World} {v : Value} {l : List Ins} (h : OwnI w1 w v l) (hb : w0.heap.size ≤ w1.heap.size) : OwnI w0 w v l := World.ownsRow.lower h hb
theorem OwnI.empty {w0 w : World} (he : Ext w0 w) : OwnI w0 (w.alloc (.cells #[] 79)) (.slice (some ⟨w.heap.size, 0, none⟩) 0 0) [] := Own.empty he
section
variable {P : Program} {ops : Array Oper} {rest : List Oper} {o : Oper} {a : Act} {Q : Exit → Act → World → Prop}
theorem wpList_appI (hgd : o.guard = none) (s x : Operand) (t : TypeId) (ho : o.op = .call { callee := .builtin .append, args := #[s, x], argTypes := #[t, t] })
 {bytes : Nat} {z : Value} (hE : Elem P t 79 3 bytes z) (w0 w : World) (v : Value) (l ys : List Ins) (hs : a.eval s = v) (hown : OwnI w0 w v l)
 (he : Ext w0 w) (cs : Array Value) (hcs : cs = (ys.flatMap icells).toArray) (m c : Nat) (hm : m = ys.length) (hx : a.eval x = .slice (some ⟨w.heap.size, 0, none⟩) m c) (hby : bytes = 24) (hb : l.length + ys.length ≤ 1000000)
 (h : ∀ v' w', OwnI w0 w' v' (l ++ ys) → Ext w0 w' → wpList P ops Q rest (a.put o.dst v') w') :
 wpList P ops Q (o :: rest) a (w.alloc (.cells cs 79)) := by
 subst hcs hm hby
 refine wpList_app hgd s x t ho hE w0 w v l.length (l.flatMap icells) hs hown he (ys.flatMap icells) ys.length c hx (icells_len ys) (icells_one ys) (by simp only [maxLen]; omega) (by omega) ?_
 intro v' w' h1 h2
 exact h v' w' (by unfold OwnI; rw [List.length_append, List.flatMap_append]; exact h1) h2
end
theorem sOp_c (o a b : Int) (w : World) : Gives Tryz.prog 43 #[.int .i64 o, .int .i64 a, .int .i64 b] w (.agg #[.int .i64 o, .int .i64 a, .int .i64 b]) := by
 go_enter Tryz.func43, Tryz.ntmps43
 go_wp2
 have B := Box.new w #[.int .i64 o, .int .i64 a, .int .i64 b] 79
 have r := B.cell; have f := B.free
 exact bodyPost_ret (v := .agg #[.int .i64 o, .int .i64 a, .int .i64 b]) (by simp [results, Tryz.results43, go_sem, r, f]) rfl ⟨rfl, Ext_alloc _ (Ext.refl w)⟩
theorem sCall_c (A : Option Addr) (es : List Int) (c : Nat) (k : Nat) (hk : k < es.length) (w : World) (h : Is w A es c) :
 Gives Tryz.prog 75 #[.slice A es.length c, .int .i64 (k : Int)] w (.agg #[.int .i64 9, .int .i64 es[k], .int .i64 0]) := by
 have hl := h.len
 obtain ⟨b, off, rfl, hb, hc⟩ := h.at k hk
 have hc' := hc (w.alloc (.cells #[.int .i64 0, .int .i64 0, .int .i64 0] 79)) (Ext_alloc _ (Ext.refl w))
 generalize es[k] = x at *
 have CO := Lib.hid (fun w => sOp_c 9 x 0 w)
 clear hc h
 go_enter Tryz.func75, Tryz.ntmps75
 go_wp2_with fail
 refine (CO.out _).mono ?_; rintro _ w1 ⟨rfl, e1⟩
 have hB := (Box.new w #[.int .i64 0, .int .i64 0, .int .i64 0] 79).ext e1
 have r2 := hB.cell; have f2 := hB.free
 have hE : Ext w w1 := Ext.trans (Ext_alloc _ (Ext.refl w)) e1
 go_wp2
 exact bodyPost_ret (v := .agg #[.int .i64 9, .int .i64 x, .int .i64 0]) (by simp [results, Tryz.results75, go_sem, r2, f2]) rfl ⟨rfl, ((hE.setCell (p := ⟨w.heap.size, 0, none⟩) (Nat.le_refl _) _).setCell (p := ⟨w.heap.size, 1, none⟩) (Nat.le_refl _) _).setCell (p := ⟨w.heap.size, 2, none⟩) (Nat.le_refl _) _⟩
theorem sLittle_c (r : DRule) (vb vn vt vk : Value) (w : World) :
 Gives Tryz.prog 74 #[vrule r vb vn vt vk] w (.int .i64 (if r.little then 1 else 0)) := by
 unfold vrule
 cases h : r.little
 all_goals
  go_enter Tryz.func74, Tryz.ntmps74
  go_wp2
  go_ret
  exact ⟨rfl, Ext_alloc _ (Ext.refl w)⟩
theorem OwnI.new {w0 w : World} (he : Ext w0 w) (ys : List Ins) (cs : Array Value) (hcs : cs = (ys.flatMap icells).toArray) (m : Nat) (hm : m = ys.length) (hl : ys.length ≤ 1000000) :
 OwnI w0 (w.alloc (.cells cs 79)) (.slice (some ⟨w.heap.size, 0, none⟩) m m) ys := by
 subst hcs hm
 have h3 := icells_len ys
 exact ⟨by rw [h3], .inr ⟨w.heap.size, ys.length, _, rfl, he.size, heap_alloc_new w _, Nat.le_refl _, by simp [maxLen]; omega, by simp [h3], by show ((ys.flatMap icells).toArray.toList).take (ys.length * 3) = _; rw [← h3]; exact List.take_length⟩⟩
theorem vrule_kids {r : DRule} {es : List Int} (hk : ∀ t, t < r.kids.length → kd r t < es.length ∧ r.kids[t]? = some ((kd r t : Nat) : Int)) {t : Nat} (ht : t < r.kids.length) : r.kids[t] = ((kd r t : Nat) : Int) := by
 have := (hk t ht).2
 rw [List.getElem?_eq_getElem ht] at this
 injection this
theorem callI_at {r : DRule} {es : List Int} {t : Nat} (h : kd r t < es.length) : callI r es t = (9, es[kd r t], 0) := by unfold callI; simp [h]
theorem sChoice_c (A : Option Addr) (es : List Int) (c : Nat) (r : DRule) (Rb : Option Addr) (rb : Nat) (Rn : Option Addr) (rn : Nat) (Rt : Option Addr) (rt : Nat) (Rk : Option Addr) (rk : Nat) (start : Nat) (w : World)
 (hE : Is w A es c) (hS : RdS w r Rb rb Rn rn Rt rt Rk rk) (hkl : r.kids.length = r.tags.length + 1) (hk : ∀ t, t < r.kids.length → kd r t < es.length ∧ r.kids[t]? = some ((kd r t : Nat) : Int)) (hn : r.tags.length ≤ 8) (hst : start ≤ 100000) :
 Calls Tryz.prog 76 #[vrule r (.slice Rb r.bytes.length rb) (.slice Rn r.names.length rn) (.slice Rt r.tags.length rt) (.slice Rk r.kids.length rk), .int .i64 (start : Int), .slice A es.length c] w fun e w' => ∃ v, e = .returned v ∧ OwnI w w' v (choC r start es) ∧ Ext w w' := by
 have hl := hE.len
 obtain ⟨W0, hW0⟩ : ∃ W, Hid (W = w.alloc (.cells #[.string r.nm, .int .i64 r.kind, .int .i64 r.size, .bool r.little, .slice Rb r.bytes.length rb, .slice Rn r.names.length rn, .slice Rt r.tags.length rt, .slice Rk r.kids.length rk] 96)) := ⟨_, rfl⟩
 have e0 : Ext w W0 := ka hW0
 have B : Box W0 w.heap.size #[.string r.nm, .int .i64 r.kind, .int .i64 r.size, .bool r.little, .slice Rb r.bytes.length rb, .slice Rn r.names.length rn, .slice Rt r.tags.length rt, .slice Rk r.kids.length rk] 96 := kb hW0
 have k6 : ∀ w', Ext W0 w' → _ = some (Value.slice Rt r.tags.length rt) := fun w' e => B.at 6 w' e
 have k7 : ∀ w', Ext W0 w' → _ = some (Value.slice Rk r.kids.length rk) := fun w' e => B.at 7 w' e
 have CC : Hid (∀ t, (ht : t < r.kids.length) → ∀ w', Ext w w' → Gives Tryz.prog 75 #[.slice A es.length c, .int .i64 ((kd r t : Nat) : Int)] w' (.agg #[.int .i64 9, .int .i64 (callI r es t).2.1, .int .i64 0])) := fun t ht w' e => by
  have h1 := (hk t ht).1
  have := sCall_c A es c (kd r t) h1 w' (hE.ext e)
  rw [callI_at h1]; exact this
 have CO := Lib.hid (fun o a b w => sOp_c o a b w)
 have HKA : Hid (∀ t, (ht : t < r.kids.length) → r.kids[t] = ((kd r t : Nat) : Int)) := fun t ht => vrule_kids hk ht
 have HTG := Lib.hid hS.t; have HKD := Lib.hid hS.k
 have hc1 : ∀ t, (callI r es t).1 = 9 ∧ (callI r es t).2.2 = 0 := fun t => ⟨rfl, rfl⟩
 have hkl' := Lib.hid hkl; have hn' := Lib.hid hn
 have hkp : 0 < r.kids.length := by omega
 clear hk hS hE B hkl
 obtain ⟨bk, ok, rfl, hbk, hck⟩ := HKD.out.at 0 hkp
 have hk0 := HKA.out 0 hkp
 rw [hk0] at hck
 have c0 : ∀ w', Ext W0 w' → w'.cell? ⟨bk, ok, none⟩ = some (.int .i64 ((kd r 0 : Nat) : Int)) := fun w' e => hck w' (e0.trans e)
 clear hck hk0
 have d0 := c0 _ (Ext.refl _); have d6 := k6 _ (Ext.refl _); have d7 := k7 _ (Ext.refl _)
 rw [hW0.out] at d0 d6 d7
 have HC0 : Hid (choC r start es = callI r es 0 :: (tagsC r start r.tags.length ++ (12, 3, 0) :: altsC r es r.tags.length)) := rfl
 unfold vrule
 go_enter Tryz.func76, Tryz.ntmps76
 go_wp2_with fail
 rw [← hW0.out]
 refine (CC.out 0 hkp _ e0).mono ?_; rintro _ w1 ⟨rfl, e1⟩
 clear d0 d6 d7 c0
 have O1 : OwnI W0 (w1.alloc (.cells #[.int .i64 9, .int .i64 (callI r es 0).2.1, .int .i64 0] 79)) (.slice (some ⟨w1.heap.size, 0, none⟩) 1 1) [callI r es 0] := OwnI.new e1 _ _ rfl _ rfl (by simp)
 have HO1 := Lib.hid O1; clear O1
 go_wp2_with fail
 go_loopw [8, 9] (fun v q wr => ∃ k : Nat, k ≤ r.tags.length ∧ q = .int .i64 (k : Int) ∧ Hid (OwnI W0 wr v (callI r es 0 :: tagsC r start k)) ∧ Ext W0 wr) (fun _ q _ => r.tags.length - (intOf q).toNat)
 case atStart => exact ⟨0, by omega, rfl, HO1.out, Ext_alloc _ e1⟩
 case round =>
  clear HO1
  obtain ⟨k, hk, rfl, ho, he⟩ := hrel
  by_cases hlt : k < r.tags.length
  ·obtain ⟨bt, ot, rfl, hbt, hct⟩ := HTG.out.at k hlt
   have hct' := fun w' (e : Ext W0 w') => hct w' (e0.trans e)
   have HB : Hid ((callI r es 0 :: tagsC r start k).length + [((11 : Int), r.tags[k], (start : Int) + (r.tags.length : Int) + 2 + 2 * (k : Int))].length ≤ 1000000) := by show _ ≤ _; simp [tagsC_len]; omega
   have HT : Hid ((callI r es 0 :: tagsC r start k) ++ [((11 : Int), r.tags[k], (start : Int) + (r.tags.length : Int) + 2 + 2 * (k : Int))] = callI r es 0 :: tagsC r start (k + 1)) := by
    show _ = _; rw [tagsC_succ, List.getD_eq_getElem?_getD, List.getElem?_eq_getElem hlt]; rfl
   generalize r.tags[k] = x at *
   clear hct
   have hw0 := he.trans (Ext.refl wr)
   go_wp2_with fail
   refine (CO.out 11 x ((start : Int) + (r.tags.length : Int) + 2 + 2 * (k : Int)) _).mono ?_; rintro _ w2 ⟨rfl, e2⟩
   have HO := Lib.hid (ho.out.ext e2)
   have he2 := he.trans e2
   go_wp2_with (first
    | (at_builtin; go_must (refine wpList_appI rfl (.tmp 26) (.tmp 40) _ rfl E_ins W0 w2 u8 (callI r es 0 :: tagsC r start k) [(11, x, (start : Int) + (r.tags.length : Int) + 2 + 2 * (k : Int))] rfl HO.out he2 _ rfl 1 1 rfl rfl rfl HB.out ?_); intro v3 w3 ho3 he3; rw [HT.out] at ho3))
   clear HB HT HO ho hw0
   go_wp2
   go_roundw
   case rel => exact ⟨k + 1, by omega, by go_num, ho3, he3⟩
   case measure => simp [intOf]; omega
  ·obtain rfl : k = r.tags.length := by omega
   have HB : Hid ((callI r es 0 :: tagsC r start r.tags.length).length + [((12 : Int), (3 : Int), (0 : Int))].length ≤ 1000000) := by show _ ≤ _; simp [tagsC_len]; omega
   clear HTG hlt
   go_wp2_with fail
   refine (CO.out 12 3 0 _).mono ?_; rintro _ w2 ⟨rfl, e2⟩
   have HO := Lib.hid (ho.out.ext e2)
   have he2 := he.trans e2
   go_wp2_with (first
    | (at_builtin; go_must (refine wpList_appI rfl (.tmp 42) (.tmp 44) _ rfl E_ins W0 w2 u8 (callI r es 0 :: tagsC r start r.tags.length) [(12, 3, 0)] rfl HO.out he2 _ rfl 1 1 rfl rfl rfl HB.out ?_); intro v3 w3 ho3 he3))
   have HO3 := Lib.hid ho3
   clear ho3 HO HB ho
   go_wp2
   go_loopw [8, 10] (fun v q wr => ∃ k : Nat, k ≤ r.tags.length ∧ q = .int .i64 (k : Int) ∧ Hid (OwnI W0 wr v (callI r es 0 :: tagsC r start r.tags.length ++ [(12, 3, 0)] ++ altsC r es k)) ∧ Ext W0 wr) (fun _ q _ => r.tags.length - (intOf q).toNat)
   case atStart => exact ⟨0, by omega, rfl, by show OwnI _ _ _ _; simpa [altsC] using HO3.out, he3⟩
   case round =>
    clear HO3 he3 he2 e2 he
    obtain ⟨k, hk, rfl, ho, he⟩ := hrel
    by_cases hlt : k < r.tags.length
    ·have hkl2 : k + 1 < r.kids.length := by have := hkl'.out; omega
     obtain ⟨bq, oq, hbq, _, hcq⟩ := HKD.out.at (k + 1) hkl2
     injection hbq with hbq; injection hbq with z1 z2; subst z1; subst z2
     rw [HKA.out (k + 1) hkl2] at hcq
     have hcq' := fun w' (e : Ext W0 w') => hcq w' (e0.trans e)
     have C1 := Lib.hid (CC.out (k + 1) hkl2)
     have HS := Lib.hid (altsC_succ r es k)
     have HL := Lib.hid (altsC_len r es k)
     generalize hLL : callI r es 0 :: tagsC r start r.tags.length ++ [(12, 3, 0)] = LL at *
     have hLn : LL.length ≤ 12 := by rw [← hLL]; simp [tagsC_len]; omega
     have HX : Hid (callI r es (k + 1) = (9, (callI r es (k + 1)).2.1, 0)) := rfl
     have HB : Hid ((LL ++ altsC r es k).length + [callI r es (k + 1)].length ≤ 1000000) := by show _ ≤ _; rw [List.length_append]; have := HL.out; simp; omega
     have HB2 : Hid ((LL ++ altsC r es k ++ [callI r es (k + 1)]).length + [((10 : Int), (0 : Int), (0 : Int))].length ≤ 1000000) := by show _ ≤ _; rw [List.length_append, List.length_append]; have := HL.out; simp; omega
     have hLL' := Lib.hid hLL; clear hLL hcq HL
     go_wp2_with fail
     refine (C1.out _ (e0.trans he)).mono ?_; rintro _ w4 ⟨rfl, e4⟩
     have HO := Lib.hid (ho.out.ext e4)
     have he4 := he.trans e4
     by_cases hlast : (k : Int) < (r.tags.length : Int) - 1
     ·go_wp2_with (first
       | (at_builtin; go_must (refine wpList_appI rfl (.tmp 51) (.tmp 60) _ rfl E_ins W0 w4 u8 (LL ++ altsC r es k) [callI r es (k + 1)] rfl HO.out he4 _ rfl 1 1 rfl rfl rfl HB.out ?_); intro v5 w5 ho5 he5))
      refine (CO.out 10 0 0 _).mono ?_; rintro _ w6 ⟨rfl, e6⟩
      have HO6 := Lib.hid (ho5.ext e6)
      have he6 := he5.trans e6
      have HS2 : Hid (LL ++ altsC r es k ++ [callI r es (k + 1)] ++ [(10, 0, 0)] = LL ++ altsC r es (k + 1)) := by show _ = _; rw [HS.out, if_pos (by omega)]; simp
      clear ho5 HB HO
      go_wp2_with (first
       | (at_builtin; go_must (refine wpList_appI rfl (.tmp 66) (.tmp 68) _ rfl E_ins W0 w6 v5 (LL ++ altsC r es k ++ [callI r es (k + 1)]) [(10, 0, 0)] rfl HO6.out he6 _ rfl 1 1 rfl rfl rfl HB2.out ?_); intro v7 w7 ho7 he7))
      rw [HS2.out] at ho7
      clear HB2 HO6
      go_roundw
      case rel => exact ⟨k + 1, by omega, by go_num, ho7, he7⟩
      case measure => simp [intOf]; omega
     ·have HS2 : Hid (LL ++ altsC r es k ++ [callI r es (k + 1)] = LL ++ altsC r es (k + 1)) := by show _ = _; rw [HS.out, if_neg (by omega)]; simp
      go_wp2_with (first
       | (at_builtin; go_must (refine wpList_appI rfl (.tmp 51) (.tmp 60) _ rfl E_ins W0 w4 u8 (LL ++ altsC r es k) [callI r es (k + 1)] rfl HO.out he4 _ rfl 1 1 rfl rfl rfl HB.out ?_); intro v5 w5 ho5 he5))
      rw [HS2.out] at ho5
      clear HB HB2 HO
      go_roundw
      case rel => exact ⟨k + 1, by omega, by go_num, ho5, he5⟩
      case measure => simp [intOf]; omega
    ·obtain rfl : k = r.tags.length := by omega
     go_wp2
     go_ret
     exact ⟨_, rfl, by rw [HC0.out]; have := ho.out.down e0.size; simpa using this, e0.trans he⟩
end Go.Proofs.YtpmcofmdjckijaaGreat
