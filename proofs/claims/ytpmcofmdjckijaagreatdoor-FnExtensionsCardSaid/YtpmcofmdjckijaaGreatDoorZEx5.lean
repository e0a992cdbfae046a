/- The laws' marks laid over registries. -/
import Derived.Test.YtpmcofmdjckijaaGreatDoorZEx4
set_option linter.unusedVariables false
set_option linter.unusedSimpArgs false
set_option maxRecDepth 100000
set_option maxHeartbeats 16000000
namespace Go.Proofs.YtpmcofmdjckijaaGreatDoor
open Go.RowKit Go.Sort
structure WroteB (B : Nat → Prop) (w w' : World) : Prop where
 os : w'.os = w.os
 tape : w'.tape = w.tape
 output : w'.output = w.output
 size : w.heap.size ≤ w'.heap.size
 block : ∀ k, k < w.heap.size → ¬ B k → w'.heap[k]? = w.heap[k]?
theorem WroteB.refl (B : Nat → Prop) (w : World) : WroteB B w w := ⟨rfl, rfl, rfl, Nat.le_refl _, fun _ _ _ => rfl⟩
theorem WroteB.trans {B : Nat → Prop} {a b c : World} (h : WroteB B a b) (k : WroteB B b c) : WroteB B a c :=
 ⟨k.os.trans h.os, k.tape.trans h.tape, k.output.trans h.output, Nat.le_trans h.size k.size, fun i hi hb => (k.block i (Nat.lt_of_lt_of_le hi h.size) hb).trans (h.block i hi hb)⟩
theorem WroteB.mono {B C : Nat → Prop} {a b : World} (h : WroteB B a b) (hC : ∀ k, B k → C k) : WroteB C a b := ⟨h.os, h.tape, h.output, h.size, fun i hi hb => h.block i hi (fun hB => hb (hC i hB))⟩
theorem WroteB.grown {B : Nat → Prop} {w w' : World} {row : Option Nat} (h : w.grownBy w' row) (hr : ∀ g, row = some g → B g) : WroteB B w w' :=
 ⟨h.os, h.tape, h.output, h.size, fun i hi hb => h.block i hi (fun e => hb (hr i e.symm))⟩
theorem WroteB.ext {B : Nat → Prop} {w w' : World} (e : Ext w w') : WroteB B w w' := ⟨e.os, e.tape, e.output, e.size, fun i hi _ => Below.block e i hi⟩
theorem WroteB.wrote {B : Nat → Prop} {lo hi : Nat} {w w' : World} (h : WroteB B w w') (hB : ∀ k, B k → lo ≤ k ∧ k < hi) : Wrote lo hi w w' :=
 ⟨h.os, h.tape, h.output, h.size, fun k hk hn => h.block k hk (fun hb => by have := hB k hb; omega)⟩
def kEndG : Nat → List (Value × List RV) → Nat
 | k, [] => k
 | k, q :: t => kEndG (kEndR k q.2) t
structure GMade (lo hi : Nat) (w : World) (v : Value) (qs : List (Value × List RV)) : Prop where
 own : ∃ w0 : World, w0.heap.size = lo ∧ OwnG w0 w v qs
 blk : ∀ u ∈ v :: (qs.flatMap fun q => q.1 :: q.2.flatMap RV.vals), ∀ b, u.ownBlock = some b → lo ≤ b ∧ b < hi
theorem GMade.ext {lo hi : Nat} {w w' : World} {v : Value} {qs : List (Value × List RV)} (h : GMade lo hi w v qs) (e : Ext w w') : GMade lo hi w' v qs := ⟨let ⟨w0, h0, h1⟩ := h.own; ⟨w0, h0, h1.ext e⟩, h.blk⟩
def inG (qs : List (Value × List RV)) (b : Nat) : Prop := ∃ q ∈ qs, ∃ u ∈ q.1 :: q.2.flatMap RV.vals, u.ownBlock = some b
inductive DVal where
 | mk (num : Int) (bytes : List UInt8) (items : List DVal)
def DVal.num : DVal → Int | .mk n _ _ => n
def DVal.bytes : DVal → List UInt8 | .mk _ b _ => b
def DVal.items : DVal → List DVal | .mk _ _ l => l
theorem DVal.eta (v : DVal) : DVal.mk v.num v.bytes v.items = v := by cases v; rfl
theorem DVal.ext' {u v : DVal} (h1 : u.num = v.num) (h2 : u.bytes = v.bytes) (h3 : u.items = v.items) : u = v := by rw [← u.eta, ← v.eta, h1, h2, h3]
theorem DVal.ind {P : DVal → Prop} (h : ∀ v, (∀ x ∈ v.items, P x) → P v) (v : DVal) : P v :=
 DVal.rec (motive_1 := P) (motive_2 := fun l => ∀ x ∈ l, P x) (fun n b its ih => h (.mk n b its) ih) (fun x hx => by cases hx)
  (fun x t hx ht y hy => by
   rcases List.mem_cons.1 hy with rfl | h'
   ·exact hx
   ·exact ht y h') v
mutual
def szV : DVal → Nat
 | .mk _ b its => b.length + szVs its
def szVs : List DVal → Nat
 | [] => 0
 | x :: t => 1 + szV x + szVs t
end
theorem szV_eq (v : DVal) : szV v = v.bytes.length + szVs v.items := by cases v; rw [szV]; rfl
theorem szVs_cons (x : DVal) (t : List DVal) : szVs (x :: t) = 1 + szV x + szVs t := by rw [szVs]
theorem szVs_sum : ∀ l : List DVal, szVs l = l.length + (l.map szV).sum
 | [] => by rw [szVs]; rfl
 | x :: t => by rw [szVs, szVs_sum t, List.map_cons, List.sum_cons, List.length_cons]; omega
theorem szVs_mem {l : List DVal} {x : DVal} (h : x ∈ l) : szV x + l.length ≤ szVs l := by
 rw [szVs_sum]; have := sum_mem szV l x h; omega
theorem szVs_take (l : List DVal) (k : Nat) (hk : k < l.length) : ((l.take (k+1)).map szV).sum = ((l.take k).map szV).sum + szV l[k] := sum_take szV l k hk
theorem szV_item {v x : DVal} (h : x ∈ v.items) : szV x < szV v := by
 rw [szV_eq v]; have := szVs_mem h; have := List.length_pos_of_mem h; omega
inductive WfV : DVal → Prop
 | mk {v : DVal} (n : (Lit.int .i64 v.num).wf = true) (i : ∀ x ∈ v.items, WfV x) : WfV v
theorem WfV.num {v : DVal} (h : WfV v) : (Lit.int .i64 v.num).wf = true := by cases h; assumption
theorem WfV.item {v : DVal} (h : WfV v) {x : DVal} (hx : x ∈ v.items) : WfV x := by cases h; rename_i n i; exact i x hx
structure ValAt (w : World) (b o : Nat) (v : DVal) (vb vi : Value) : Prop where
 c0 : ∀ (w' : World), Ext w w' → w'.cell? ⟨b, o, none⟩ = some (.int .i64 v.num)
 c1 : ∀ (w' : World), Ext w w' → w'.cell? ⟨b, o + 1, none⟩ = some vb
 c2 : ∀ (w' : World), Ext w w' → w'.cell? ⟨b, o + 2, none⟩ = some vi
theorem ValAt.ext {w w' : World} {b o : Nat} {v : DVal} {vb vi : Value} (h : ValAt w b o v vb vi) (e : Ext w w') : ValAt w' b o v vb vi :=
 ⟨fun w1 e1 => h.c0 w1 (e.trans e1), fun w1 e1 => h.c1 w1 (e.trans e1), fun w1 e1 => h.c2 w1 (e.trans e1)⟩
inductive RdVs (w : World) : Option Addr → List DVal → Nat → Prop
 | mk {A : Option Addr} {its : List DVal} {c : Nat} (cap : its.length ≤ c) (len : its.length ≤ 9223372036854775807) (b off : Nat) (hA : 0 < its.length → A = some ⟨b, off, none⟩ ∧ b < w.heap.size)
  (Ab : Nat → Option Addr) (cb : Nat → Nat) (Ai : Nat → Option Addr) (ci : Nat → Nat)
  (byt : ∀ i (h : i < its.length), Rd0 vu8 w (Ab i) its[i].bytes (cb i))
  (cells : ∀ i (h : i < its.length), ValAt w b (off + i * 3) its[i] (.slice (Ab i) its[i].bytes.length (cb i)) (.slice (Ai i) its[i].items.length (ci i)))
  (kids : ∀ i (h : i < its.length), RdVs w (Ai i) its[i].items (ci i)) : RdVs w A its c
theorem RdVs.ext {w w' : World} {A : Option Addr} {its : List DVal} {c : Nat} (h : RdVs w A its c) (e : Ext w w') : RdVs w' A its c := by
 induction h with
 | mk cap len b off hA Ab cb Ai ci byt cells kids ih =>
  exact .mk cap len b off (fun hp => ⟨(hA hp).1, Nat.lt_of_lt_of_le (hA hp).2 e.size⟩) Ab cb Ai ci (fun i h => (byt i h).ext e) (fun i h => (cells i h).ext e) (fun i h => ih i h)
theorem RdVs.len {w : World} {A : Option Addr} {its : List DVal} {c : Nat} (h : RdVs w A its c) : its.length ≤ 9223372036854775807 := by cases h; assumption
theorem RdVs.cap {w : World} {A : Option Addr} {its : List DVal} {c : Nat} (h : RdVs w A its c) : its.length ≤ c := by cases h; assumption
structure RdV (w : World) (v : DVal) (Ab : Option Addr) (cb : Nat) (Ai : Option Addr) (ci : Nat) : Prop where
 b : Rd0 vu8 w Ab v.bytes cb
 i : RdVs w Ai v.items ci
theorem RdV.ext {w w' : World} {v : DVal} {Ab : Option Addr} {cb : Nat} {Ai : Option Addr} {ci : Nat} (h : RdV w v Ab cb Ai ci) (e : Ext w w') : RdV w' v Ab cb Ai ci := ⟨h.b.ext e, h.i.ext e⟩
def vval (v : DVal) (vb vi : Value) : Value := .agg #[.int .i64 v.num, vb, vi]
theorem RdVs.at {w : World} {A : Option Addr} {its : List DVal} {c : Nat} (h : RdVs w A its c) (i : Nat) (hi : i < its.length) :
 ∃ b off Ab cb Ai ci, A = some ⟨b, off, none⟩ ∧ b < w.heap.size ∧ RdV w its[i] Ab cb Ai ci ∧ ValAt w b (off + i * 3) its[i] (.slice Ab its[i].bytes.length cb) (.slice Ai its[i].items.length ci) := by
 cases h with
 | mk cap len b off hA Ab cb Ai ci byt cells kids =>
  exact ⟨b, off, Ab i, cb i, Ai i, ci i, (hA (by omega)).1, (hA (by omega)).2, ⟨byt i hi, kids i hi⟩, cells i hi⟩
theorem RdVs.of {w : World} {A : Option Addr} {its : List DVal} {c : Nat} (cap : its.length ≤ c) (len : its.length ≤ 9223372036854775807) (b off : Nat) (hA : 0 < its.length → A = some ⟨b, off, none⟩ ∧ b < w.heap.size)
 (h : ∀ i (hi : i < its.length), ∃ Ab cb Ai ci, RdV w its[i] Ab cb Ai ci ∧ ValAt w b (off + i * 3) its[i] (.slice Ab its[i].bytes.length cb) (.slice Ai its[i].items.length ci)) : RdVs w A its c := by
 have h' : ∀ i, ∃ q : Option Addr × Nat × Option Addr × Nat, ∀ hi : i < its.length, RdV w its[i] q.1 q.2.1 q.2.2.1 q.2.2.2 ∧ ValAt w b (off + i * 3) its[i] (.slice q.1 its[i].bytes.length q.2.1) (.slice q.2.2.1 its[i].items.length q.2.2.2) := fun i => by
  by_cases hi : i < its.length
  ·obtain ⟨Ab, cb, Ai, ci, h1⟩ := h i hi
   exact ⟨(Ab, cb, Ai, ci), fun _ => h1⟩
  ·exact ⟨(none, 0, none, 0), fun hh => absurd hh hi⟩
 obtain ⟨f, hf⟩ := Classical.axiomOfChoice h'
 exact .mk cap len b off hA (fun i => (f i).1) (fun i => (f i).2.1) (fun i => (f i).2.2.1) (fun i => (f i).2.2.2) (fun i hi => (hf i hi).1.b) (fun i hi => (hf i hi).2) (fun i hi => (hf i hi).1.i)
theorem RdVs.nil (w : World) : RdVs w none [] 0 := .of (by simp) (by simp) 0 0 (fun h => by simp at h) (fun i h => by simp at h)
inductive VT where
 | mk (num : Int) (bs : List UInt8) (vb : Value) (its : List VT) (vi : Value)
def VT.num : VT → Int | .mk n _ _ _ _ => n
def VT.bs : VT → List UInt8 | .mk _ b _ _ _ => b
def VT.vb : VT → Value | .mk _ _ v _ _ => v
def VT.its : VT → List VT | .mk _ _ _ l _ => l
def VT.vi : VT → Value | .mk _ _ _ _ v => v
theorem VT.ind {P : VT → Prop} (h : ∀ t, (∀ x ∈ t.its, P x) → P t) (t : VT) : P t :=
 VT.rec (motive_1 := P) (motive_2 := fun l => ∀ x ∈ l, P x) (fun n b vb its vi ih => h (.mk n b vb its vi) ih) (fun x hx => by cases hx)
  (fun x t hx ht y hy => by
   rcases List.mem_cons.1 hy with rfl | h'
   ·exact hx
   ·exact ht y h') t
mutual
def VT.val : VT → DVal
 | .mk n b _ its _ => .mk n b (valsOf its)
def valsOf : List VT → List DVal
 | [] => []
 | x :: t => x.val :: valsOf t
end
mutual
def VT.vals : VT → List Value
 | .mk _ _ vb its vi => vb :: vi :: valsVs its
def valsVs : List VT → List Value
 | [] => []
 | x :: t => x.vals ++ valsVs t
end
theorem valsOf_map : ∀ l : List VT, valsOf l = l.map VT.val
 | [] => by rw [valsOf]; rfl
 | x :: t => by rw [valsOf, valsOf_map t]; rfl
theorem valsVs_flat : ∀ l : List VT, valsVs l = l.flatMap VT.vals
 | [] => by rw [valsVs]; rfl
 | x :: t => by rw [valsVs, valsVs_flat t, List.flatMap_cons]
theorem VT.vals_eq (t : VT) : t.vals = t.vb :: t.vi :: t.its.flatMap VT.vals := by cases t; rw [VT.vals, valsVs_flat]; rfl
theorem VT.val_num (t : VT) : t.val.num = t.num := by cases t; rw [VT.val]; rfl
theorem VT.val_bytes (t : VT) : t.val.bytes = t.bs := by cases t; rw [VT.val]; rfl
theorem VT.val_items (t : VT) : t.val.items = valsOf t.its := by cases t; rw [VT.val]; rfl
theorem valsOf_len (l : List VT) : (valsOf l).length = l.length := by rw [valsOf_map, List.length_map]
theorem valsOf_append (a b : List VT) : valsOf (a ++ b) = valsOf a ++ valsOf b := by rw [valsOf_map, valsOf_map, valsOf_map, List.map_append]
theorem valsOf_get (l : List VT) (i : Nat) (h : i < (valsOf l).length) : (valsOf l)[i] = (l[i]'(by rwa [valsOf_len] at h)).val := by simp [valsOf_map]
def VT.cells (t : VT) : List Value := [.int .i64 t.num, t.vb, t.vi]
theorem VT.one {t : VT} (hb : t.vb.oneCell' = true) (hi : t.vi.oneCell' = true) : ∀ u ∈ t.cells, u.oneCell' = true := by
 intro u hu
 simp only [VT.cells, List.mem_cons, List.not_mem_nil, or_false] at hu
 rcases hu with rfl | rfl | rfl <;> first | rfl | assumption
inductive OwnT (w0 w : World) : VT → Prop
 | mk {t : VT} (b : OwnL vu8 5 w0 w t.vb t.bs) (i : Own 29 3 w0 w t.vi t.its.length (t.its.flatMap VT.cells)) (kids : ∀ x ∈ t.its, OwnT w0 w x) : OwnT w0 w t
theorem OwnT.b {w0 w : World} {t : VT} (h : OwnT w0 w t) : OwnL vu8 5 w0 w t.vb t.bs := by cases h; assumption
theorem OwnT.i {w0 w : World} {t : VT} (h : OwnT w0 w t) : Own 29 3 w0 w t.vi t.its.length (t.its.flatMap VT.cells) := by cases h; assumption
theorem OwnT.kids {w0 w : World} {t : VT} (h : OwnT w0 w t) : ∀ x ∈ t.its, OwnT w0 w x := by cases h; assumption
theorem mem_vals {t x : VT} (hx : x ∈ t.its) {u : Value} (hu : u ∈ x.vals) : u ∈ t.vals := by
 rw [VT.vals_eq]; exact List.mem_cons_of_mem _ (List.mem_cons_of_mem _ (List.mem_flatMap.2 ⟨x, hx, hu⟩))
theorem vb_mem (t : VT) : t.vb ∈ t.vals := by rw [VT.vals_eq]; simp
theorem vi_mem (t : VT) : t.vi ∈ t.vals := by rw [VT.vals_eq]; simp
theorem OwnT.ext {w0 w w' : World} {t : VT} (h : OwnT w0 w t) (e : Ext w w') : OwnT w0 w' t := by
 induction h with
 | mk b i kids ih => exact .mk (b.ext e) (i.ext e) ih
theorem OwnT.down {w0 w1 w : World} {t : VT} (h : OwnT w1 w t) (e : w0.heap.size ≤ w1.heap.size) : OwnT w0 w t := by
 induction h with
 | mk b i kids ih => exact .mk (OwnL.down b e) (World.ownsRow.lower i e) ih
theorem OwnT.keep {w0 w w' : World} {t : VT} (h : OwnT w0 w t) {row : Option Nat} (hg : w.grownBy w' row) (hne : ∀ v ∈ t.vals, ∀ g, v.ownBlock = some g → row ≠ some g) : OwnT w0 w' t := by
 induction h with
 | mk b i kids ih =>
  rename_i t
  exact .mk (b.keep hg (hne _ (vb_mem t))) (i.keep hg (hne _ (vi_mem t))) (fun x hx => ih x hx (fun v hv => hne v (mem_vals hx hv)))
theorem OwnT.wrote {w0 w w' : World} {t : VT} (h : OwnT w0 w t) {lo hi : Nat} (hw : Wrote lo hi w w') (hv : ∀ v ∈ t.vals, ∀ g, v.ownBlock = some g → g < lo ∨ hi ≤ g) : OwnT w0 w' t := by
 induction h with
 | mk b i kids ih =>
  rename_i t
  exact .mk (b.wrote hw (hv _ (vb_mem t))) (i.wrote hw (hv _ (vi_mem t))) (fun x hx => ih x hx (fun v h => hv v (mem_vals hx h)))
theorem OwnT.block {w0 w : World} {t : VT} (h : OwnT w0 w t) : ∀ v ∈ t.vals, ∀ g, v.ownBlock = some g → w0.heap.size ≤ g ∧ g < w.heap.size := by
 induction h with
 | mk b i kids ih =>
  rename_i t
  intro v hv
  rw [VT.vals_eq] at hv
  rcases List.mem_cons.1 hv with rfl | hv
  ·exact fun g hg => World.ownsRow.lt b g hg
  rcases List.mem_cons.1 hv with rfl | hv
  ·exact fun g hg => World.ownsRow.lt i g hg
  ·obtain ⟨x, hx, hv⟩ := List.mem_flatMap.1 hv
   exact ih x hx v hv
structure OwnTs (w0 w : World) (v : Value) (ps : List VT) : Prop where
 row : Own 29 3 w0 w v ps.length (ps.flatMap VT.cells)
 each : ∀ p ∈ ps, OwnT w0 w p
 far : Far (v :: ps.flatMap VT.vals)
theorem Own.shape {e : TypeId} {size : Nat} {w0 w : World} {v : Value} {n : Nat} {xs : List Value} (h : Own e size w0 w v n xs) : ∃ A c, v = .slice A n c := by
 rcases h.2 with ⟨rfl, hn⟩ | ⟨g, cap, _, rfl, _⟩
 ·exact ⟨none, 0, by rw [hn]⟩
 ·exact ⟨_, _, rfl⟩
theorem OwnTs.shape {w0 w : World} {v : Value} {ps : List VT} (h : OwnTs w0 w v ps) : ∃ A c, v = .slice A ps.length c := h.row.shape
theorem OwnTs.ext {w0 w w' : World} {v : Value} {ps : List VT} (h : OwnTs w0 w v ps) (e : Ext w w') : OwnTs w0 w' v ps := ⟨h.row.ext e, fun p hp => (h.each p hp).ext e, h.far⟩
theorem OwnTs.down {w0 w1 w : World} {v : Value} {ps : List VT} (h : OwnTs w1 w v ps) (e : w0.heap.size ≤ w1.heap.size) : OwnTs w0 w v ps := ⟨World.ownsRow.lower h.row e, fun p hp => (h.each p hp).down e, h.far⟩
theorem OwnTs.keep {w0 w w' : World} {v : Value} {ps : List VT} (h : OwnTs w0 w v ps) {row : Option Nat} (hg : w.grownBy w' row) (hne : ∀ u ∈ v :: ps.flatMap VT.vals, ∀ g, u.ownBlock = some g → row ≠ some g) : OwnTs w0 w' v ps :=
 ⟨h.row.keep hg (hne _ (by simp)), fun p hp => (h.each p hp).keep hg (fun u hu => hne u (List.mem_cons_of_mem _ (List.mem_flatMap.2 ⟨p, hp, hu⟩))), h.far⟩
theorem OwnTs.block {w0 w : World} {v : Value} {ps : List VT} (h : OwnTs w0 w v ps) : ∀ u ∈ v :: ps.flatMap VT.vals, ∀ g, u.ownBlock = some g → w0.heap.size ≤ g ∧ g < w.heap.size := by
 intro u hu
 rcases List.mem_cons.1 hu with rfl | hu
 ·exact fun g hg => World.ownsRow.lt h.row g hg
 ·obtain ⟨p, hp, hu⟩ := List.mem_flatMap.1 hu
  exact (h.each p hp).block u hu
theorem vcells_get : ∀ (ps : List VT) (i j : Nat) (h : i < ps.length), j < 3 → (ps.flatMap VT.cells)[i * 3 + j]? = ps[i].cells[j]? := by
 intro ps
 induction ps with
 | nil => intro i j h; simp at h
 | cons p t ih =>
  intro i j h hj
  rw [List.flatMap_cons]
  cases i with
  | zero =>
   rw [List.getElem?_append_left (by simp [VT.cells]; omega)]
   simp
  | succ i =>
   rw [List.getElem?_append_right (by simp [VT.cells]; omega)]
   have : (i + 1) * 3 + j - p.cells.length = i * 3 + j := by simp [VT.cells]; omega
   rw [this, ih i j (by simpa using h) hj]
   simp
theorem bytes_le (v : DVal) : v.bytes.length ≤ szV v := by rw [szV_eq]; omega
theorem items_le (v : DVal) : v.items.length ≤ szV v := by rw [szV_eq, szVs_sum]; omega
theorem szVs_le_szV (v : DVal) : szVs v.items ≤ szV v := by rw [szV_eq]; omega
theorem RdVs.of_row {w0 w : World} {v : Value} {ps : List VT} (hrow : Own 29 3 w0 w v ps.length (ps.flatMap VT.cells)) (hl : ps.length ≤ 9223372036854775807)
 (hk : ∀ p ∈ ps, ∃ Ab cb Ai ci, p.vb = .slice Ab p.val.bytes.length cb ∧ p.vi = .slice Ai p.val.items.length ci ∧ RdV w p.val Ab cb Ai ci) : ∃ A c, v = .slice A (valsOf ps).length c ∧ RdVs w A (valsOf ps) c := by
 have hlen := valsOf_len ps
 rcases hrow.2 with ⟨rfl, h0⟩ | ⟨g, cap, cur, rfl, hb, hg, hnc, hcm, hcs, htake⟩
 ·refine ⟨none, 0, by rw [hlen, h0], ?_⟩
  obtain rfl : ps = [] := List.eq_nil_of_length_eq_zero h0
  rw [valsOf]; exact RdVs.nil w
 ·refine ⟨_, _, by rw [hlen], .of (by omega) (by omega) g 0 (fun _ => ⟨rfl, (Array.getElem?_eq_some_iff.1 hg).1⟩) (fun i hi => ?_)⟩
  have hi' : i < ps.length := by omega
  rw [valsOf_get ps i hi]
  have hc : ∀ (w' : World), Ext w w' → ∀ j, j < 3 → w'.cell? ⟨g, i * 3 + j, none⟩ = ps[i].cells[j]? := by
   intro w' e j hj
   rw [heap_row hg e, ← vcells_get ps i j hi' hj, ← htake, List.getElem?_take, if_pos (by omega)]
   simp
  obtain ⟨Ab, cb, Ai, ci, e1, e2, hR⟩ := hk _ (List.getElem_mem hi')
  refine ⟨Ab, cb, Ai, ci, hR, ?_⟩
  rw [← e1, ← e2, Nat.zero_add]
  exact ⟨fun w' e => by have := hc w' e 0 (by omega); simpa [VT.cells, VT.val_num] using this, fun w' e => by have := hc w' e 1 (by omega); simpa [VT.cells] using this, fun w' e => by have := hc w' e 2 (by omega); simpa [VT.cells] using this⟩
theorem OwnT.rd {w0 w : World} {t : VT} (h : OwnT w0 w t) (hz : szV t.val ≤ 140737488351232) : ∃ Ab cb Ai ci, t.vb = .slice Ab t.val.bytes.length cb ∧ t.vi = .slice Ai t.val.items.length ci ∧ RdV w t.val Ab cb Ai ci := by
 induction h with
 | mk b i kids ih =>
  rename_i t
  have hb1 := bytes_le t.val; have hi1 := items_le t.val
  rw [VT.val_bytes] at hb1; rw [VT.val_items, valsOf_len] at hi1
  obtain ⟨Ab, cb, e1, r1⟩ := OwnL.rd b (by omega)
  obtain ⟨Ai, ci, e2, r2⟩ := RdVs.of_row i (by omega) (fun p hp => ih p hp (by
   have : szV p.val < szV t.val := szV_item (by rw [VT.val_items, valsOf_map]; exact List.mem_map_of_mem hp)
   omega))
  exact ⟨Ab, cb, Ai, ci, by rw [VT.val_bytes]; exact e1, by rw [VT.val_items]; exact e2, ⟨by rw [VT.val_bytes]; exact r1.1, by rw [VT.val_items]; exact r2⟩⟩
theorem OwnTs.rd {w0 w : World} {v : Value} {ps : List VT} (h : OwnTs w0 w v ps) (hz : szVs (valsOf ps) ≤ 140737488351232) : ∃ A c, v = .slice A (valsOf ps).length c ∧ RdVs w A (valsOf ps) c :=
 RdVs.of_row h.row (by have := szVs_sum (valsOf ps); rw [valsOf_len] at this; omega) (fun p hp => (h.each p hp).rd (by
  have := szVs_mem (l := valsOf ps) (x := p.val) (by rw [valsOf_map]; exact List.mem_map_of_mem hp); omega))
theorem set3 (xs : List Value) (p : VT) (rest : List Value) (hr : 3 ≤ rest.length) (k : Nat) (hk : xs.length = k) :
 (((xs ++ rest).set k (.int .i64 p.num)).set (k + 1) p.vb).set (k + 2) p.vi = (xs ++ p.cells) ++ rest.drop 3 := by
 match rest, hr with
 | a0 :: a1 :: a2 :: t, _ =>
  subst hk
  rw [List.set_append_right _ _ (by omega), List.set_append_right _ _ (by omega), List.set_append_right _ _ (by omega)]
  rw [show xs.length - xs.length = 0 by omega, show xs.length + 1 - xs.length = 1 by omega, show xs.length + 2 - xs.length = 2 by omega]
  simp [VT.cells]
def put3 (w : World) (g k : Nat) (p : VT) : World := ((w.setCell ⟨g, k, none⟩ (.int .i64 p.num)).setCell ⟨g, k + 1, none⟩ p.vb).setCell ⟨g, k + 2, none⟩ p.vi
theorem grown_put3 (w : World) (g k : Nat) (p : VT) : w.grownBy (put3 w g k p) (some g) := by
 unfold put3
 exact ((grown_set w ⟨g, k, none⟩ _).trans (grown_set _ ⟨g, k + 1, none⟩ _)).trans (grown_set _ ⟨g, k + 2, none⟩ _)
theorem Own.put3 {e : TypeId} {w0 w : World} {g n cap : Nat} {xs rest : List Value} (h : Own e 3 w0 w (.slice (some ⟨g, 0, none⟩) n cap) n (xs ++ rest)) (he : Ext w0 w) (p : VT) (hr : 3 ≤ rest.length) (k : Nat) (hk : xs.length = k) :
 Own e 3 w0 (put3 w g k p) (.slice (some ⟨g, 0, none⟩) n cap) n ((xs ++ p.cells) ++ rest.drop 3) ∧ Ext w0 (put3 w g k p) := by
 rw [← set3 xs p rest hr k hk]
 obtain ⟨h0, e0⟩ := h.store he k (.int .i64 p.num)
 obtain ⟨h1, e1⟩ := Own.store h0 e0 (k + 1) p.vb
 obtain ⟨h2, e2⟩ := Own.store h1 e1 (k + 2) p.vi
 exact ⟨h2, e2⟩
structure GotV (w w' : World) (t : VT) (v : DVal) : Prop where
 val : t.val = v
 own : OwnT w w' t
 far : Far t.vals
theorem GotV.ext {w w' w'' : World} {t : VT} {v : DVal} (h : GotV w w' t v) (e : Ext w' w'') : GotV w w'' t v := ⟨h.val, h.own.ext e, h.far⟩
theorem GotV.down {w0 w w' : World} {t : VT} {v : DVal} (h : GotV w w' t v) (e : w0.heap.size ≤ w.heap.size) : GotV w0 w' t v := ⟨h.val, h.own.down e, h.far⟩
theorem GotV.rd {w w' : World} {t : VT} {v : DVal} (h : GotV w w' t v) (hz : szV v ≤ 140737488351232) : ∃ Ab cb Ai ci, t.vb = .slice Ab v.bytes.length cb ∧ t.vi = .slice Ai v.items.length ci ∧ RdV w' v Ab cb Ai ci := by
 obtain ⟨e, o, _⟩ := h
 subst e
 exact o.rd hz
theorem GotV.num {w w' : World} {t : VT} {v : DVal} (h : GotV w w' t v) : t.num = v.num := by rw [← h.val, VT.val_num]
end Go.Proofs.YtpmcofmdjckijaaGreatDoor
namespace Go.Proofs.YtpmcofmdjckijaaGreatDoor
def kidsOf (r : DRule) : List Int := if r.kind = 4 ∨ r.kind = 5 ∨ r.kind = 7 then r.kids.drop 1 else r.kids
def setAll (c : List Bool) (l : List Int) : List Bool := l.foldl (fun c k => c.set k.toNat true) c
def possAt (ds : List DRule) (c : List Bool) (i : Nat) : List Bool := if c.getD i false then setAll c (kidsOf (ds.getD i ⟨⟨#[]⟩, 0, 0, false, [], [], [], []⟩)) else c
def possFrom (ds : List DRule) : Nat → List Bool → List Bool
 | 0, c => c
 | i + 1, c => possFrom ds i (possAt ds c i)
def possible (ds : List DRule) : List Bool := possFrom ds ds.length ((List.replicate ds.length false).set (ds.length - 1) true)
def entries (ds : List DRule) : List Nat := (List.range ds.length).filter fun i => (possible ds).getD i false
def entriesUpTo (c : List Bool) (n : Nat) : List Nat := (List.range n).filter fun i => c.getD i false
def covered (ds : List DRule) (cov : List Int) : Nat := ((entries ds).filter fun i => decide (0 < at0 cov i)).length
def percent (ds : List DRule) (cov : List Int) : Int := if descOk ds then (100 * covered ds cov : Nat) / (entries ds).length else 0
def uncovered (ds : List DRule) (cov : List Int) : List ByteArray := if descOk ds then ((entries ds).filter fun i => at0 cov i == 0).map (fun i => (ds.getD i ⟨⟨#[]⟩, 0, 0, false, [], [], [], []⟩).nm) else []
end Go.Proofs.YtpmcofmdjckijaaGreatDoor
namespace Go.Proofs.YtpmcofmdjckijaaGreatDoor
open Go.RowKit Go.Sort
theorem sContains_c (A : Option Addr) (l : List ByteArray) (c : Nat) (s : ByteArray) (w : World) (h : Rd0 vstr w A l c) :
 Gives Tryz.prog 101 #[.slice A l.length c, .string s] w (.bool (hasNm l s)) := by
 have hl := h.len
 go_enter Tryz.func101, Tryz.ntmps101
 go_wp2
 go_loopw [5] (fun i wr => ∃ k : Nat, k ≤ l.length ∧ i = .int .i64 k ∧ Hid (∀ j (hj : j < l.length), j < k → (l[j].toList == s.toList) = false) ∧ Ext w wr) (fun i _ => l.length - (intOf i).toNat)
 case atStart => exact ⟨0, by omega, rfl, (fun j _ hj => by omega), Ext.refl _⟩
 case round =>
  obtain ⟨k, hk, rfl, ht, he⟩ := hrel
  by_cases hlt : k < l.length
  ·obtain ⟨b, off, rfl, hb, hc⟩ := h.at k hlt
   have YES : Hid ((l[k].toList == s.toList) = true → hasNm l s = true) := hasNm_at hlt
   have NO : Hid ((l[k].toList == s.toList) = false → ∀ j (hj : j < l.length), j < k + 1 → (l[j].toList == s.toList) = false) := by
    intro hy j hj hjk
    rcases (by omega : j < k ∨ j = k) with hjk | rfl
    ·exact ht.out j hj hjk
    ·exact hy
   clear h
   generalize l[k] = x at *
   cases hq : (x.toList == s.toList)
   ·have NO' := Lib.hid (NO.out hq)
    go_wp2
    go_roundw
    case rel => exact ⟨k+1, by omega, by go_num, NO'.out, he⟩
    case measure => simp [intOf]; omega
   ·have YES' := Lib.hid (YES.out hq)
    go_wp2
    go_ret
    exact ⟨ret_bool YES'.out.symm, he⟩
  ·have HE : Hid (hasNm l s = false) := hasNm_none (fun j hj => ht.out j hj (by omega))
   go_wp2
   go_ret
   exact ⟨ret_bool HE.out.symm, he⟩
theorem iContains_c (A : Option Addr) (l : List ByteArray) (c : Nat) (s : ByteArray) (w : World) (h : Rd0 vstr w A l c) :
 Gives Tryz.prog 40 #[.slice A l.length c, .string s] w (.bool (hasNm l s)) := by
 have hl := h.len
 go_enter Tryz.func40, Tryz.ntmps40
 go_wp2
 go_loopw [9] (fun i wr => ∃ k : Nat, k ≤ l.length ∧ i = .int .i64 k ∧ Hid (∀ j (hj : j < l.length), j < k → (l[j].toList == s.toList) = false) ∧ Ext w wr) (fun i _ => l.length - (intOf i).toNat)
 case atStart => exact ⟨0, by omega, rfl, (fun j _ hj => by omega), Ext.refl _⟩
 case round =>
  obtain ⟨k, hk, rfl, ht, he⟩ := hrel
  by_cases hlt : k < l.length
  ·obtain ⟨b, off, rfl, hb, hc⟩ := h.at k hlt
   have YES : Hid ((l[k].toList == s.toList) = true → hasNm l s = true) := hasNm_at hlt
   have NO : Hid ((l[k].toList == s.toList) = false → ∀ j (hj : j < l.length), j < k + 1 → (l[j].toList == s.toList) = false) := by
    intro hy j hj hjk
    rcases (by omega : j < k ∨ j = k) with hjk | rfl
    ·exact ht.out j hj hjk
    ·exact hy
   clear h
   generalize l[k] = x at *
   cases hq : (x.toList == s.toList)
   ·have NO' := Lib.hid (NO.out hq)
    go_wp2
    go_roundw
    case rel => exact ⟨k+1, by omega, by go_num, NO'.out, he⟩
    case measure => simp [intOf]; omega
   ·have YES' := Lib.hid (YES.out hq)
    go_wp2
    go_ret
    exact ⟨ret_bool YES'.out.symm, he⟩
  ·have HE : Hid (hasNm l s = false) := hasNm_none (fun j hj => ht.out j hj (by omega))
   go_wp2
   go_ret
   exact ⟨ret_bool HE.out.symm, he⟩
theorem hasRule_c (A : Option Addr) (n c : Nat) (i : Int) (w : World) (hn : n ≤ 9223372036854775807) :
 Gives Tryz.prog 55 #[vdesc (.slice A n c), .int .i64 i] w (.bool (decide (0 ≤ i) && decide (i < n))) := by
 unfold vdesc
 by_cases h0 : 0 ≤ i
 ·by_cases h1 : i < n
  all_goals
   go_enter Tryz.func55, Tryz.ntmps55
   go_wp2
   go_ret
   exact ⟨ret_bool (by simp [*]), Ext_alloc _ (Ext.refl w)⟩
 ·go_enter Tryz.func55, Tryz.ntmps55
  go_wp2
  go_ret
  exact ⟨ret_bool (by simp; omega), Ext_alloc _ (Ext.refl w)⟩
def findR (ds : List DRule) (s : ByteArray) : Int := match ds.findIdx? (fun r => r.nm.toList == s.toList) with | some i => (i : Int) | none => -1
def nmsOf (ds : List DRule) : List ByteArray := ds.map DRule.nm
theorem findR_at {ds : List DRule} {s : ByteArray} {k : Nat} (hk : k < ds.length) (h : (ds[k].nm.toList == s.toList) = true) (hn : ∀ j (hj : j < ds.length), j < k → (ds[j].nm.toList == s.toList) = false) : findR ds s = (k : Int) := by
 unfold findR
 have : ds.findIdx? (fun r => r.nm.toList == s.toList) = some k := by
  rw [List.findIdx?_eq_some_iff_getElem]
  exact ⟨hk, h, fun j hj => by rw [hn j (by omega) hj]; simp⟩
 rw [this]
theorem findR_none {ds : List DRule} {s : ByteArray} (hn : ∀ j (hj : j < ds.length), (ds[j].nm.toList == s.toList) = false) : findR ds s = -1 := by
 unfold findR
 have : ds.findIdx? (fun r => r.nm.toList == s.toList) = none := by
  rw [List.findIdx?_eq_none_iff]
  intro x hx
  obtain ⟨j, hj, rfl⟩ := List.getElem_of_mem hx
  exact hn j hj
 rw [this]
theorem findR_lt (ds : List DRule) (s : ByteArray) : -1 ≤ findR ds s ∧ findR ds s < ds.length ∨ findR ds s = -1 := by
 unfold findR
 cases h : ds.findIdx? (fun r => r.nm.toList == s.toList) with
 | none => exact .inr rfl
 | some i =>
  rw [List.findIdx?_eq_some_iff_getElem] at h
  obtain ⟨hi, _, _⟩ := h
  left; simp only; omega
theorem iFind_c (A : Option Addr) (ds : List DRule) (c : Nat) (s : ByteArray) (w : World) (hd : RdD w A ds c) :
 Gives Tryz.prog 36 #[vdesc (.slice A ds.length c), .string s] w (.int .i64 (findR ds s)) := by
 have hl := hd.len
 have eb := Ext_alloc (.cells #[.slice A ds.length c] 26) (Ext.refl w)
 have BX := fun w' (e : Ext (w.alloc (.cells #[.slice A ds.length c] 26)) w') => boxed e
 unfold vdesc
 go_enter Tryz.func36, Tryz.ntmps36
 go_wp2
 go_loopw [10] (fun q wr => ∃ k : Nat, k ≤ ds.length ∧ q = .int .i64 k ∧ Hid (∀ j (hj : j < ds.length), j < k → (ds[j].nm.toList == s.toList) = false) ∧ Ext (w.alloc (.cells #[.slice A ds.length c] 26)) wr) (fun q _ => ds.length - (intOf q).toNat)
 case atStart => exact ⟨0, by omega, rfl, (fun j _ hj => by omega), Ext.refl _⟩
 case round =>
  obtain ⟨k, hk, rfl, ht, he⟩ := hrel
  by_cases hlt : k < ds.length
  ·obtain ⟨b, off, Ab, cb, An, cn, At, ct, Ak, ck, rfl, hb, _, hR⟩ := hd.at k hlt
   have YES : Hid ((ds[k].nm.toList == s.toList) = true → findR ds s = (k : Int)) := fun h => findR_at hlt h ht.out
   have NO : Hid ((ds[k].nm.toList == s.toList) = false → ∀ j (hj : j < ds.length), j < k + 1 → (ds[j].nm.toList == s.toList) = false) := by
    intro hy j hj hjk
    rcases (by omega : j < k ∨ j = k) with hjk | rfl
    ·exact ht.out j hj hjk
    ·exact hy
   generalize ds[k] = p at *
   obtain ⟨m0, m1, m2, m3, m4, m5, m6, m7⟩ := hR.ext eb
   clear hd hR ht
   cases hq : (p.nm.toList == s.toList)
   ·have HE := Lib.hid (NO.out hq); clear YES NO
    go_wp2
    go_roundw
    case rel => exact ⟨k+1, by omega, by go_num, HE.out, (Ext_alloc _ he)⟩
    case measure => simp [intOf]; omega
   ·have HE := Lib.hid (YES.out hq); clear YES NO
    go_wp2
    go_ret
    exact ⟨ret_i64 HE.out.symm, eb.trans (Ext_alloc _ he)⟩
  ·have HE : Hid (findR ds s = -1) := findR_none (fun j hj => ht.out j hj (by omega))
   go_wp2
   go_ret
   exact ⟨ret_i64 HE.out.symm, eb.trans he⟩
section
variable {P : Program} {ops : Array Oper} {rest : List Oper} {o : Oper} {a : Act} {Q : Exit → Act → World → Prop}
theorem wpList_appNB (hgd : o.guard = none) (s x : Operand) (t : TypeId) (ho : o.op = .call { callee := .builtin .append, args := #[s, x], argTypes := #[t, t] })
 {e : TypeId} {bytes : Nat} {z : Value} (hE : Elem P t e 1 bytes z) (hby : 1 ≤ bytes) (w0 w : World) {α : Type} (f : α → Value) (hf : ∀ x, (f x).oneCell' = true) (v : Value) (hs : a.eval s = v) (m c g : Nat) (hx : a.eval x = .slice (some ⟨g, 0, none⟩) m c) (hg : g = w.heap.size)
 (l ys : List α) (cs : Array Value) (hcs : cs = (ys.map f).toArray) (hown : OwnL f e w0 w v l) (he : Ext w0 w) (hm : m = ys.length)
 (hb : (l.length + ys.length) * bytes ≤ 140737488355328)
 (h : ∀ v' w', OwnL f e w0 w' v' (l ++ ys) → Ext w0 w' → (v'.ownBlock = v.ownBlock ∨ v'.ownBlock = some (w.alloc (.cells cs e)).heap.size) → (w.alloc (.cells cs e)).grownBy w' v.ownBlock → wpList P ops Q rest (a.put o.dst v') w') :
 wpList P ops Q (o :: rest) a (w.alloc (.cells cs e)) := by
 subst hcs; subst hg
 refine wpList_appL hgd s x t ho hE hby w0 _ f hf v hs (some ⟨w.heap.size, 0, none⟩) m c hx l ys (hown.ext (Ext_alloc _ (Ext.refl w))) (Ext_alloc _ he) hm (fun _ => ⟨_, rfl, fun j u hu => ?_⟩) hb h
 rw [World.cell?_alloc_at']; exact hu
end
theorem take_snoc' {α β : Type} (f : α → β) (l : List α) (k : Nat) (hk : k < l.length) : (l.take k).map f ++ [f l[k]] = (l.take (k+1)).map f := by
 rw [List.take_succ_eq_append_getElem hk, List.map_append]; rfl
theorem iNames_c (A : Option Addr) (ds : List DRule) (c : Nat) (w : World) (hd : RdD w A ds c) (hL : ds.length ≤ 1048576) :
 Calls Tryz.prog 39 #[vdesc (.slice A ds.length c)] w fun e w' => ∃ v, e = .returned v ∧ OwnL vstr 9 w w' v (nmsOf ds) ∧ Ext w w' := by
 have hl := hd.len
 have eb := Ext_alloc (.cells #[.slice A ds.length c] 26) (Ext.refl w)
 have BX := fun w' (e : Ext (w.alloc (.cells #[.slice A ds.length c] 26)) w') => boxed e
 unfold vdesc
 go_enter Tryz.func39, Tryz.ntmps39
 go_wp2
 obtain ⟨W0, hW0⟩ : ∃ W0, W0 = (w.alloc (.cells #[.slice A ds.length c] 26)) := ⟨_, rfl⟩
 rw [← hW0] at eb BX ⊢
 have HW0 := Lib.hid hW0; clear hW0
 go_loopw [3, 10] (fun t q wr => ∃ k : Nat, k ≤ ds.length ∧ q = .int .i64 k ∧ Hid (OwnL vstr 9 W0 wr t ((ds.take k).map DRule.nm)) ∧ Ext W0 wr) (fun _ q _ => ds.length - (intOf q).toNat)
 case atStart => exact ⟨0, by omega, rfl, by
  have := OwnL.empty (f := vstr) (e := 9) (Ext.refl W0)
  have hs : W0.heap.size = w.heap.size + 1 := by rw [HW0.out]; simp
  rw [hs] at this
  simpa [Hid] using this, Ext_alloc _ (Ext.refl _)⟩
 case round =>
  obtain ⟨k, hk, rfl, ho, he⟩ := hrel
  by_cases hlt : k < ds.length
  ·obtain ⟨b, off, Ab, cb, An, cn, At, ct, Ak, ck, rfl, hb, _, hR⟩ := hd.at k hlt
   have HT := Lib.hid (take_snoc' DRule.nm ds k hlt)
   have hlen : ((ds.take k).map DRule.nm).length = k := by rw [List.length_map, List.length_take]; omega
   have HB : Hid ((((ds.take k).map DRule.nm).length + [ds[k].nm].length) * 16 ≤ 140737488355328) := by show _ ≤ _; rw [hlen]; simp only [List.length_cons, List.length_nil]; omega
   generalize ds[k] = p at *
   obtain ⟨m0, m1, m2, m3, m4, m5, m6, m7⟩ := hR.ext eb
   clear hd hR hlen
   have ex := Ext_alloc (.cells #[.string p.nm, .int .i64 p.kind, .int .i64 p.size, .bool p.little, .slice Ab p.bytes.length cb, .slice An p.names.length cn, .slice At p.tags.length ct, .slice Ak p.kids.length ck] 51) (Ext.refl wr)
   have HO := Lib.hid (ho.out.ext ex)
   have hex := he.trans ex
   go_wp2_with (first
    | (at_builtin; go_must (refine wpList_appNB rfl (.tmp 14) (.tmp 17) _ rfl E_str (by omega) W0 _ vstr (fun _ => rfl) _ rfl _ _ _ rfl (by simp) ((ds.take k).map DRule.nm) [p.nm] _ rfl HO.out hex rfl HB.out ?_); intro v1 w1 ho1 he1 _ _; rw [HT.out] at ho1))
   go_roundw
   case rel => exact ⟨k+1, by omega, by go_num, ho1, he1⟩
   case measure => simp [intOf]; omega
  ·have HE : Hid ((ds.take k).map DRule.nm = nmsOf ds) := by show _ = _; rw [List.take_of_length_le (by omega)]; rfl
   go_wp2
   go_ret
   refine ⟨_, rfl, ?_, eb.trans he⟩
   rw [← HE.out]; exact ho.out.down eb.size
def shared (a b : List DRule) : List ByteArray := (nmsOf a).filter (hasNm (nmsOf b))
def shr (a b : List DRule) (k : Nat) : List ByteArray := ((a.take k).map DRule.nm).filter (hasNm (nmsOf b))
theorem iShared_c (A A' : Option Addr) (a b : List DRule) (c c' : Nat) (w : World) (ha : RdD w A a c) (hb : RdD w A' b c') (hL : a.length ≤ 1048576) (hL' : b.length ≤ 1048576) :
 Calls Tryz.prog 16 #[vdesc (.slice A a.length c), vdesc (.slice A' b.length c')] w fun e w' => ∃ v, e = .returned v ∧ OwnL vstr 9 w w' v (shared a b) ∧ Ext w w' := by
 have hl := ha.len
 have eb := Ext_alloc (.cells #[.slice A' b.length c'] 26) (Ext_alloc (.cells #[.slice A a.length c] 26) (Ext.refl w))
 have BX := fun w' (e : Ext ((w.alloc (.cells #[.slice A a.length c] 26)).alloc (.cells #[.slice A' b.length c'] 26)) w') => boxed2 e
 have B0 := fun w' e => (BX w' e).1
 have B1 := fun w' e => (BX w' e).2.1
 clear BX
 have CN := Lib.hid (fun w h => iNames_c A' b c' w h hL')
 have hbn : (nmsOf b).length ≤ 140737488351232 := by unfold nmsOf; rw [List.length_map]; omega
 unfold vdesc at *
 obtain ⟨W0, hW0⟩ : ∃ W0, W0 = ((w.alloc (.cells #[.slice A a.length c] 26)).alloc (.cells #[.slice A' b.length c'] 26)) := ⟨_, rfl⟩
 rw [← hW0] at eb B0 B1
 have hs0 : W0.heap.size = w.heap.size + 1 + 1 := by rw [hW0]; simp
 have OE := OwnL.empty (f := vstr) (e := 9) (Ext.refl W0)
 rw [hs0] at OE
 have HOE := Lib.hid OE; have HW0 := Lib.hid hW0
 have x0 := Ext_alloc (.cells #[] 9) (Ext.refl W0)
 have hx0 : (W0.alloc (.cells #[] 9)).heap.size = w.heap.size + 1 + 1 + 1 := by simp [hs0]
 have HX0 := Lib.hid hx0
 clear OE hW0 hx0
 go_enter Tryz.func16, Tryz.ntmps16
 go_wp2_with fail
 rw [← HW0.out]
 refine (CN.out _ (hb.ext (eb.trans x0))).mono ?_; rintro _ w1 ⟨v6, rfl, o6, s1⟩
 have HFAR : Hid (∀ g, v6.ownBlock = some g → w.heap.size + 1 + 1 + 1 ≤ g) := fun g hg => by have := (World.ownsRow.lt o6 g hg).1; have := HX0.out; omega
 obtain ⟨A6, c6, rfl, _⟩ := OwnL.rd o6 hbn
 have HO6 := Lib.hid (o6.down (w0 := W0) (by have := x0.size; omega))
 have HO1 := Lib.hid (HOE.out.ext s1)
 have e1 := x0.trans s1
 clear o6 HOE s1 x0 hb CN
 generalize hNB : nmsOf b = NB at *
 have HNB := Lib.hid hNB; clear hNB
 go_wp2
 go_loopw [5, 15] (fun t q wr => ∃ k : Nat, k ≤ a.length ∧ q = .int .i64 k ∧ Hid (OwnL vstr 9 W0 wr t (((a.take k).map DRule.nm).filter (hasNm NB))) ∧ Hid (OwnL vstr 9 W0 wr (.slice A6 NB.length c6) NB) ∧ Hid (∀ g, t.ownBlock = some g → (Value.slice A6 NB.length c6).ownBlock ≠ some g) ∧ Ext W0 wr) (fun _ q _ => a.length - (intOf q).toNat)
 case atStart => exact ⟨0, by omega, rfl, by simpa [Hid] using HO1.out, HO6, (fun g hg hg' => by have := HFAR.out g hg'; simp [Value.ownBlock] at hg; omega), e1⟩
 case round =>
  clear HO1 HO6 e1 HFAR
  obtain ⟨k, hk, rfl, ho, hn6, hfar, he⟩ := hrel
  by_cases hlt : k < a.length
  ·obtain ⟨ba, off, Ab, cb, An, cn, At, ct, Ak, ck, rfl, hba, _, hR⟩ := ha.at k hlt
   have HY : Hid (hasNm NB a[k].nm = true → ((a.take k).map DRule.nm).filter (hasNm NB) ++ [a[k].nm] = ((a.take (k+1)).map DRule.nm).filter (hasNm NB)) := by
    intro h; rw [List.take_succ_eq_append_getElem hlt, List.map_append, List.filter_append]; simp [h]
   have HN : Hid (hasNm NB a[k].nm = false → ((a.take k).map DRule.nm).filter (hasNm NB) = ((a.take (k+1)).map DRule.nm).filter (hasNm NB)) := by
    intro h; rw [List.take_succ_eq_append_getElem hlt, List.map_append, List.filter_append]; simp [h]
   have hsl : (((a.take k).map DRule.nm).filter (hasNm NB)).length ≤ k := by
    have h1 := List.length_filter_le (hasNm NB) ((a.take k).map DRule.nm); rw [List.length_map, List.length_take] at h1; omega
   have HB : Hid (((((a.take k).map DRule.nm).filter (hasNm NB)).length + [a[k].nm].length) * 16 ≤ 140737488355328) := by show _ ≤ _; simp only [List.length_cons, List.length_nil]; omega
   generalize ((a.take k).map DRule.nm).filter (hasNm NB) = L at *
   obtain ⟨L', hL''⟩ : ∃ L', ((a.take (k+1)).map DRule.nm).filter (hasNm NB) = L' := ⟨_, rfl⟩
   rw [hL''] at HY HN
   have HLL := Lib.hid hL''; clear hL''
   generalize a[k] = p at *
   obtain ⟨m0, m1, m2, m3, m4, m5, m6, m7⟩ := hR.ext eb
   clear ha hR hsl
   have ex := Ext_alloc (.cells #[.string p.nm, .int .i64 p.kind, .int .i64 p.size, .bool p.little, .slice Ab p.bytes.length cb, .slice An p.names.length cn, .slice At p.tags.length ct, .slice Ak p.kids.length ck] 51) (Ext.refl wr)
   obtain ⟨_, _, hv6, r6⟩ := OwnL.rd hn6.out hbn
   injection hv6 with q1 _ q2
   subst q1; subst q2
   have C := Lib.hid (iContains_c A6 NB c6 p.nm _ (r6.1.ext ex))
   have HN6 := Lib.hid (hn6.out.ext ex)
   have HO := Lib.hid (ho.out.ext ex)
   have e1 := he.trans ex
   have BP := fun w' (e : Ext (wr.alloc (.cells #[.string p.nm, .int .i64 p.kind, .int .i64 p.size, .bool p.little, .slice Ab p.bytes.length cb, .slice An p.names.length cn, .slice At p.tags.length ct, .slice Ak p.kids.length ck] 51)) w') => boxed e
   clear r6 hn6 ho
   generalize hasNm NB p.nm = z at *
   cases z
   ·have HE := Lib.hid (HN.out rfl); clear HY HN
    go_wp2_with fail
    refine C.out.mono ?_; rintro _ w2 ⟨rfl, s2⟩
    have ho1 := HO.out.ext s2
    rw [HE.out, ← HLL.out] at ho1
    have H1 := Lib.hid ho1; have H2 := Lib.hid (HN6.out.ext s2)
    clear ho1 HO HN6
    go_wp2
    go_roundw
    case rel => exact ⟨k+1, by omega, by go_num, H1, H2, hfar, e1.trans s2⟩
    case measure => simp [intOf]; omega
   ·have HE := Lib.hid (HY.out rfl); clear HY HN
    go_wp2_with fail
    refine C.out.mono ?_; rintro _ w2 ⟨rfl, s2⟩
    have HO2 := Lib.hid (HO.out.ext s2); have HN2 := Lib.hid (HN6.out.ext s2)
    have e2 := e1.trans s2
    clear HO HN6
    go_wp2_with (first
     | (at_builtin; go_must (refine wpList_appNB rfl (.tmp 23) (.tmp 26) _ rfl E_str (by omega) W0 _ vstr (fun _ => rfl) _ rfl _ _ _ rfl (by simp) L [p.nm] _ rfl HO2.out e2 rfl HB.out ?_); intro v1 w3 ho1 he1 hv1 hg1; rw [HE.out, ← HLL.out] at ho1))
    have H1 := Lib.hid ho1
    have H2 : Hid (OwnL vstr 9 W0 w3 (.slice A6 NB.length c6) NB) := by
     refine OwnL.keep (HN2.out.ext (Ext_alloc _ (Ext.refl _))) hg1 ?_
     intro g hg hg'
     exact hfar.out g hg' hg
    have H3 : Hid (∀ g, v1.ownBlock = some g → (Value.slice A6 NB.length c6).ownBlock ≠ some g) := by
     intro g hg hg'
     rcases hv1 with hv1 | hv1
     ·rw [hv1] at hg; exact hfar.out g hg hg'
     ·rw [hv1] at hg; injection hg with hg; subst hg
      have h5 := (World.ownsRow.lt HN2.out _ hg').2
      simp at h5; omega
    clear ho1 hv1 hg1
    go_roundw
    case rel => exact ⟨k+1, by omega, by go_num, H1, H2, H3, he1⟩
    case measure => simp [intOf]; omega
  ·have HE : Hid (((a.take k).map DRule.nm).filter (hasNm NB) = (nmsOf a).filter (hasNm NB)) := by show _ = _; unfold nmsOf; rw [List.take_of_length_le (by omega)]
   go_wp2
   go_ret
   refine ⟨_, rfl, ?_, eb.trans he⟩
   unfold shared
   rw [HNB.out, ← HE.out]; exact ho.out.down eb.size
theorem allN_at {n k : Nat} {f : Nat → Bool} (h : allN n f = true) (hk : k < n) : f k = true := by
 cases h1 : f k
 ·rw [allN_no hk h1] at h; cases h
 ·rfl
theorem descOk_len {ds : List DRule} (h : descOk ds = true) : 0 < ds.length ∧ ds.length ≤ 24 := by
 unfold descOk between at h; simp at h; omega
theorem descOk_kid {ds : List DRule} (h : descOk ds = true) (i : Nat) (hi : i < ds.length) (j : Nat) (hj : j < ds[i].kids.length) : 0 ≤ ds[i].kids[j] ∧ ds[i].kids[j] < i := by
 unfold descOk at h
 rw [Bool.and_eq_true] at h
 have h1 := allN_at h.2 hi
 unfold ruleOk at h1
 rw [List.getElem?_eq_getElem hi] at h1
 simp only [Bool.and_eq_true] at h1
 have h2 := allN_at h1.1.2 hj
 unfold kidOk at h2
 rw [List.getElem?_eq_getElem hj] at h2
 unfold between at h2; simp at h2; omega
def selK (r : DRule) (k : Nat) : List Int := if r.kind = 4 ∨ r.kind = 5 ∨ r.kind = 7 then (r.kids.take k).drop 1 else r.kids.take k
theorem sRoot_c (A : Option Addr) (ds : List DRule) (c : Nat) (w : World) (hl : ds.length ≤ 9223372036854775807) :
 Gives Tryz.prog 26 #[vdesc (.slice A ds.length c)] w (.int .i64 ((ds.length : Int) - 1)) := by
 have eb := Ext_alloc (.cells #[.slice A ds.length c] 26) (Ext.refl w)
 have BX := fun w' (e : Ext (w.alloc (.cells #[.slice A ds.length c] 26)) w') => boxed e
 unfold vdesc
 go_enter Tryz.func26, Tryz.ntmps26
 go_wp2
 go_ret
 exact ⟨ret_i64 (by go_num), eb⟩
theorem iRoot_c (A : Option Addr) (ds : List DRule) (c : Nat) (w : World) (hl : ds.length ≤ 9223372036854775807) :
 Gives Tryz.prog 24 #[vdesc (.slice A ds.length c)] w (.int .i64 ((ds.length : Int) - 1)) := by
 have eb := Ext_alloc (.cells #[.slice A ds.length c] 26) (Ext.refl w)
 have BX := fun w' (e : Ext (w.alloc (.cells #[.slice A ds.length c] 26)) w') => boxed e
 unfold vdesc
 go_enter Tryz.func24, Tryz.ntmps24
 go_wp2
 go_ret
 exact ⟨ret_i64 (by go_num), eb⟩
theorem limD_out {ds : List DRule} {i : Int} (h : ¬ (0 ≤ i ∧ i < ds.length)) : limD ds i = -1 := by
 unfold limD
 split
 ·rw [List.getElem?_eq_none (by omega)]
 ·rfl
theorem limD_in {ds : List DRule} {k : Nat} (h : k < ds.length) : limD ds (k : Int) = limR ds[k] := by
 unfold limD
 rw [if_pos (by omega), Int.toNat_natCast, List.getElem?_eq_getElem h]
theorem limR_kind {r : DRule} (h : r.kind ≠ 1) : limR r = -1 := by unfold limR; rw [if_neg (by omega)]
theorem limR_size {r : DRule} (h : ¬ (1 ≤ r.size ∧ r.size ≤ 4)) : limR r = -1 := by unfold limR; rw [if_neg (by omega)]
theorem limR_yes {r : DRule} (h : r.kind = 1) (s : Nat) (h1 : 1 ≤ s) (h2 : s ≤ 4) (e : r.size = s) : limR r = 256 ^ s - 1 := by
 unfold limR; rw [if_pos (by omega), e, Int.toNat_natCast]
theorem iLimit_c (A : Option Addr) (ds : List DRule) (c : Nat) (i : Int) (w : World) (h : RdD w A ds c) :
 Gives Tryz.prog 89 #[vdesc (.slice A ds.length c), .int .i64 i] w (.int .i64 (limD ds i)) := by
 have hl := h.len
 have eb := Ext_alloc (.cells #[.slice A ds.length c] 26) (Ext.refl w)
 have BX := fun w' (e : Ext (w.alloc (.cells #[.slice A ds.length c] 26)) w') => boxed e 0
 simp only [List.getElem?_toArray, List.getElem?_cons_zero] at BX
 have CR := Lib.hid (fun w => hasRule_c A ds.length c i w hl)
 unfold vdesc at *
 by_cases hin : 0 ≤ i ∧ i < ds.length
 ·obtain ⟨k, rfl⟩ := Int.eq_ofNat_of_zero_le hin.1
  have hlt : k < ds.length := by omega
  have HI : Hid ((decide ((0 : Int) ≤ (k : Int)) && decide ((k : Int) < (ds.length : Int))) = true) := by show _ = _; simp; omega
  rw [HI.out] at CR
  obtain ⟨b, off, Ab, cb, An, cn, At, ct, Ak, ck, rfl, hb, hS, hR⟩ := h.at k hlt
  have HV := Lib.hid (limD_in hlt)
  rw [HV.out]
  have hR' := hR.ext eb
  clear hR hS h
  generalize ds[k] = r at *
  obtain ⟨k0, k1, k2, k3, k4, k5, k6, k7⟩ := hR'
  clear k0 k3 k4 k5 k6 k7 hin
  by_cases hk : r.kind = 1
  ·by_cases hs : 1 ≤ r.size ∧ r.size ≤ 4
   ·have hs4 : r.size = ((1 : Nat) : Int) ∨ r.size = ((2 : Nat) : Int) ∨ r.size = ((3 : Nat) : Int) ∨ r.size = ((4 : Nat) : Int) := by omega
    have CI := Lib.hid (fun w => iInRange_c r.size 1 4 w)
    have HJ : Hid ((decide ((1 : Int) ≤ r.size) && decide (r.size ≤ 4)) = true) := by show _ = _; simp; omega
    rw [HJ.out] at CI
    rcases hs4 with e | e | e | e
    ·have HL := Lib.hid (limR_yes hk 1 (by omega) (by omega) e)
     rw [HL.out]
     rw [e] at k2 CI
     rw [hk] at k1
     clear hs hk e HJ
     go_enter Tryz.func89, Tryz.ntmps89
     go_wp2_with fail
     refine (CR.out _).mono ?_; rintro _ w1 ⟨rfl, he1⟩
     go_wp2_with fail
     refine (CI.out _).mono ?_; rintro _ w2 ⟨rfl, he2⟩
     have e2 := he1.trans he2
     go_wp2
     go_ret
     exact ⟨ret_i64 (by simp), eb.trans e2⟩
    ·have HL := Lib.hid (limR_yes hk 2 (by omega) (by omega) e)
     rw [HL.out]
     rw [e] at k2 CI
     rw [hk] at k1
     clear hs hk e HJ
     go_enter Tryz.func89, Tryz.ntmps89
     go_wp2_with fail
     refine (CR.out _).mono ?_; rintro _ w1 ⟨rfl, he1⟩
     go_wp2_with fail
     refine (CI.out _).mono ?_; rintro _ w2 ⟨rfl, he2⟩
     have e2 := he1.trans he2
     go_wp2
     go_ret
     exact ⟨ret_i64 (by simp), eb.trans e2⟩
    ·have HL := Lib.hid (limR_yes hk 3 (by omega) (by omega) e)
     rw [HL.out]
     rw [e] at k2 CI
     rw [hk] at k1
     clear hs hk e HJ
     go_enter Tryz.func89, Tryz.ntmps89
     go_wp2_with fail
     refine (CR.out _).mono ?_; rintro _ w1 ⟨rfl, he1⟩
     go_wp2_with fail
     refine (CI.out _).mono ?_; rintro _ w2 ⟨rfl, he2⟩
     have e2 := he1.trans he2
     go_wp2
     go_ret
     exact ⟨ret_i64 (by simp), eb.trans e2⟩
    ·have HL := Lib.hid (limR_yes hk 4 (by omega) (by omega) e)
     rw [HL.out]
     rw [e] at k2 CI
     rw [hk] at k1
     clear hs hk e HJ
     go_enter Tryz.func89, Tryz.ntmps89
     go_wp2_with fail
     refine (CR.out _).mono ?_; rintro _ w1 ⟨rfl, he1⟩
     go_wp2_with fail
     refine (CI.out _).mono ?_; rintro _ w2 ⟨rfl, he2⟩
     have e2 := he1.trans he2
     go_wp2
     go_ret
     exact ⟨ret_i64 (by simp), eb.trans e2⟩
   ·have CI := Lib.hid (fun w => iInRange_c r.size 1 4 w)
    have HJ : Hid ((decide ((1 : Int) ≤ r.size) && decide (r.size ≤ 4)) = false) := by show _ = _; rw [Bool.and_eq_false_iff]; simp; omega
    rw [HJ.out] at CI
    have HL := Lib.hid (limR_size hs)
    rw [HL.out]
    rw [hk] at k1
    clear hs hk HJ
    go_enter Tryz.func89, Tryz.ntmps89
    go_wp2_with fail
    refine (CR.out _).mono ?_; rintro _ w1 ⟨rfl, he1⟩
    go_wp2_with fail
    refine (CI.out _).mono ?_; rintro _ w2 ⟨rfl, he2⟩
    go_wp2
    go_ret
    exact ⟨rfl, eb.trans (he1.trans he2)⟩
  ·have HL := Lib.hid (limR_kind hk)
   rw [HL.out]
   have hk1 : (r.kind != 1) = true := by simpa using hk
   go_enter Tryz.func89, Tryz.ntmps89
   go_wp2_with fail
   refine (CR.out _).mono ?_; rintro _ w1 ⟨rfl, he1⟩
   go_wp2
   go_ret
   exact ⟨rfl, eb.trans he1⟩
 ·have HI : Hid ((decide ((0 : Int) ≤ i) && decide (i < (ds.length : Int))) = false) := by show _ = _; rw [Bool.and_eq_false_iff]; simp; omega
  rw [HI.out] at CR
  have HL := Lib.hid (limD_out hin)
  rw [HL.out]
  clear hin
  go_enter Tryz.func89, Tryz.ntmps89
  go_wp2_with fail
  refine (CR.out _).mono ?_; rintro _ w1 ⟨rfl, he1⟩
  go_wp2
  go_ret
  exact ⟨rfl, eb.trans he1⟩
theorem l2PowerN_c (s : Nat) (w : World) (h1 : 1 ≤ s) (h2 : s ≤ 4) : Gives Tryz.prog 48 #[.int .i64 (s : Int)] w (.int .i64 (256 ^ s)) := by
 rcases (by omega : s = 1 ∨ s = 2 ∨ s = 3 ∨ s = 4) with rfl | rfl | rfl | rfl
 all_goals
  go_enter Tryz.func48, Tryz.ntmps48
  go_wp2
  go_ret
  exact ⟨ret_i64 (by simp), Ext.refl _⟩
theorem sLimit_c (A : Option Addr) (ds : List DRule) (c : Nat) (i : Int) (w : World) (h : RdD w A ds c) :
 Gives Tryz.prog 93 #[vdesc (.slice A ds.length c), .int .i64 i] w (.int .i64 (limD ds i)) := by
 have hl := h.len
 have eb := Ext_alloc (.cells #[.slice A ds.length c] 26) (Ext.refl w)
 have BX := fun w' (e : Ext (w.alloc (.cells #[.slice A ds.length c] 26)) w') => boxed e 0
 simp only [List.getElem?_toArray, List.getElem?_cons_zero] at BX
 have CR := Lib.hid (fun w => l1In_c i 0 ((ds.length : Int) - 1) w)
 unfold vdesc at *
 by_cases hin : 0 ≤ i ∧ i < ds.length
 ·obtain ⟨k, rfl⟩ := Int.eq_ofNat_of_zero_le hin.1
  have hlt : k < ds.length := by omega
  have HI : Hid ((decide ((0 : Int) ≤ (k : Int)) && decide ((k : Int) ≤ (ds.length : Int) - 1)) = true) := by show _ = _; simp; omega
  rw [HI.out] at CR
  obtain ⟨b, off, Ab, cb, An, cn, At, ct, Ak, ck, rfl, hb, hS, hR⟩ := h.at k hlt
  have HV := Lib.hid (limD_in hlt)
  rw [HV.out]
  have hR' := hR.ext eb
  clear hR hS h
  generalize ds[k] = r at *
  obtain ⟨k0, k1, k2, k3, k4, k5, k6, k7⟩ := hR'
  clear k0 k3 k4 k5 k6 k7 hin
  by_cases hk : r.kind = 1
  ·by_cases hs : 1 ≤ r.size ∧ r.size ≤ 4
   ·have hs4 : r.size = ((1 : Nat) : Int) ∨ r.size = ((2 : Nat) : Int) ∨ r.size = ((3 : Nat) : Int) ∨ r.size = ((4 : Nat) : Int) := by omega
    have CI := Lib.hid (fun w => l1In_c r.size 1 4 w)
    have HJ : Hid ((decide ((1 : Int) ≤ r.size) && decide (r.size ≤ 4)) = true) := by show _ = _; simp; omega
    rw [HJ.out] at CI
    rcases hs4 with e | e | e | e
    ·have HL := Lib.hid (limR_yes hk 1 (by omega) (by omega) e)
     rw [HL.out]
     rw [e] at k2 CI
     rw [hk] at k1
     clear hs hk e HJ
     go_enter Tryz.func93, Tryz.ntmps93
     go_wp2_with fail
     refine (CR.out _).mono ?_; rintro _ w1 ⟨rfl, he1⟩
     go_wp2_with fail
     refine (CI.out _).mono ?_; rintro _ w2 ⟨rfl, he2⟩
     have e2 := he1.trans he2
     go_wp2_with fail
     refine (l2PowerN_c 1 _ (by omega) (by omega)).mono ?_
     rintro _ w3 ⟨rfl, he3⟩
     have e3 := e2.trans he3
     go_wp2
     go_ret
     exact ⟨ret_i64 (by simp), eb.trans e3⟩
    ·have HL := Lib.hid (limR_yes hk 2 (by omega) (by omega) e)
     rw [HL.out]
     rw [e] at k2 CI
     rw [hk] at k1
     clear hs hk e HJ
     go_enter Tryz.func93, Tryz.ntmps93
     go_wp2_with fail
     refine (CR.out _).mono ?_; rintro _ w1 ⟨rfl, he1⟩
     go_wp2_with fail
     refine (CI.out _).mono ?_; rintro _ w2 ⟨rfl, he2⟩
     have e2 := he1.trans he2
     go_wp2_with fail
     refine (l2PowerN_c 2 _ (by omega) (by omega)).mono ?_
     rintro _ w3 ⟨rfl, he3⟩
     have e3 := e2.trans he3
     go_wp2
     go_ret
     exact ⟨ret_i64 (by simp), eb.trans e3⟩
    ·have HL := Lib.hid (limR_yes hk 3 (by omega) (by omega) e)
     rw [HL.out]
     rw [e] at k2 CI
     rw [hk] at k1
     clear hs hk e HJ
     go_enter Tryz.func93, Tryz.ntmps93
     go_wp2_with fail
     refine (CR.out _).mono ?_; rintro _ w1 ⟨rfl, he1⟩
     go_wp2_with fail
     refine (CI.out _).mono ?_; rintro _ w2 ⟨rfl, he2⟩
     have e2 := he1.trans he2
     go_wp2_with fail
     refine (l2PowerN_c 3 _ (by omega) (by omega)).mono ?_
     rintro _ w3 ⟨rfl, he3⟩
     have e3 := e2.trans he3
     go_wp2
     go_ret
     exact ⟨ret_i64 (by simp), eb.trans e3⟩
    ·have HL := Lib.hid (limR_yes hk 4 (by omega) (by omega) e)
     rw [HL.out]
     rw [e] at k2 CI
     rw [hk] at k1
     clear hs hk e HJ
     go_enter Tryz.func93, Tryz.ntmps93
     go_wp2_with fail
     refine (CR.out _).mono ?_; rintro _ w1 ⟨rfl, he1⟩
     go_wp2_with fail
     refine (CI.out _).mono ?_; rintro _ w2 ⟨rfl, he2⟩
     have e2 := he1.trans he2
     go_wp2_with fail
     refine (l2PowerN_c 4 _ (by omega) (by omega)).mono ?_
     rintro _ w3 ⟨rfl, he3⟩
     have e3 := e2.trans he3
     go_wp2
     go_ret
     exact ⟨ret_i64 (by simp), eb.trans e3⟩
   ·have CI := Lib.hid (fun w => l1In_c r.size 1 4 w)
    have HJ : Hid ((decide ((1 : Int) ≤ r.size) && decide (r.size ≤ 4)) = false) := by show _ = _; rw [Bool.and_eq_false_iff]; simp; omega
    rw [HJ.out] at CI
    have HL := Lib.hid (limR_size hs)
    rw [HL.out]
    rw [hk] at k1
    clear hs hk HJ
    go_enter Tryz.func93, Tryz.ntmps93
    go_wp2_with fail
    refine (CR.out _).mono ?_; rintro _ w1 ⟨rfl, he1⟩
    go_wp2_with fail
    refine (CI.out _).mono ?_; rintro _ w2 ⟨rfl, he2⟩
    go_wp2
    go_ret
    exact ⟨rfl, eb.trans (he1.trans he2)⟩
  ·have HL := Lib.hid (limR_kind hk)
   rw [HL.out]
   have hk1 : (r.kind != 1) = true := by simpa using hk
   go_enter Tryz.func93, Tryz.ntmps93
   go_wp2_with fail
   refine (CR.out _).mono ?_; rintro _ w1 ⟨rfl, he1⟩
   go_wp2
   go_ret
   exact ⟨rfl, eb.trans he1⟩
 ·have HI : Hid ((decide ((0 : Int) ≤ i) && decide (i ≤ (ds.length : Int) - 1)) = false) := by show _ = _; rw [Bool.and_eq_false_iff]; simp; omega
  rw [HI.out] at CR
  have HL := Lib.hid (limD_out hin)
  rw [HL.out]
  clear hin
  go_enter Tryz.func93, Tryz.ntmps93
  go_wp2_with fail
  refine (CR.out _).mono ?_; rintro _ w1 ⟨rfl, he1⟩
  go_wp2
  go_ret
  exact ⟨rfl, eb.trans he1⟩
theorem iPlain1000_c (r : DRule) (Ab : Option Addr) (cb : Nat) (An : Option Addr) (cn : Nat) (At : Option Addr) (ct : Nat) (Ak : Option Addr) (ck : Nat) (kids : Int) (w : World) (hl : r.bytes.length ≤ 9223372036854775807 ∧ r.names.length ≤ 9223372036854775807 ∧ r.tags.length ≤ 9223372036854775807 ∧ r.kids.length ≤ 9223372036854775807) :
 Gives Tryz.prog 88 #[vrule r (.slice Ab r.bytes.length cb) (.slice An r.names.length cn) (.slice At r.tags.length ct) (.slice Ak r.kids.length ck), .bool true, .bool false, .bool false, .bool false, .int .i64 kids] w (.bool (plainB r true false false false kids)) := by
 obtain ⟨l1, l2, l3, l4⟩ := hl
 unfold plainB
 obtain ⟨nm, kind, size, little, bytes, names, tags, kd⟩ := r
 unfold vrule
 dsimp only at *
 cases g_bytes : (bytes.length == 0)
 ·have k_bytes : (((bytes.length : Nat) : Int) == 0) = false := by simpa using g_bytes
  go_enter Tryz.func88, Tryz.ntmps88
  go_wp2
  go_ret
  exact ⟨ret_bool (by simp [*]), Ext_alloc _ (Ext.refl w)⟩
 have k_bytes : (((bytes.length : Nat) : Int) == 0) = true := by simpa using g_bytes
 cases g_names : (names.length == 0)
 ·have k_names : (((names.length : Nat) : Int) == 0) = false := by simpa using g_names
  go_enter Tryz.func88, Tryz.ntmps88
  go_wp2
  go_ret
  exact ⟨ret_bool (by simp [*]), Ext_alloc _ (Ext.refl w)⟩
 have k_names : (((names.length : Nat) : Int) == 0) = true := by simpa using g_names
 cases g_tags : (tags.length == 0)
 ·have k_tags : (((tags.length : Nat) : Int) == 0) = false := by simpa using g_tags
  go_enter Tryz.func88, Tryz.ntmps88
  go_wp2
  go_ret
  exact ⟨ret_bool (by simp [*]), Ext_alloc _ (Ext.refl w)⟩
 have k_tags : (((tags.length : Nat) : Int) == 0) = true := by simpa using g_tags
 by_cases hk : kids < 0
 ·have dk : decide (kids < 0) = true := by simpa using hk
  go_enter Tryz.func88, Tryz.ntmps88
  go_wp2
  go_ret
  exact ⟨ret_bool (by simp [*]), Ext_alloc _ (Ext.refl w)⟩
 ·have dk : decide (kids < 0) = false := by simpa using hk
  by_cases hq : ((kd.length : Int) = kids)
  ·have k_kids : ((kd.length : Int) == kids) = true := by simpa using hq
   have HQ := Lib.hid hq; clear hq
   go_enter Tryz.func88, Tryz.ntmps88
   go_wp2
   go_ret
   exact ⟨ret_bool (by have := HQ.out; simp [*]), Ext_alloc _ (Ext.refl w)⟩
  ·have k_kids : ((kd.length : Int) == kids) = false := by simpa using hq
   go_enter Tryz.func88, Tryz.ntmps88
   go_wp2
   go_ret
   exact ⟨ret_bool (by simp [*]), Ext_alloc _ (Ext.refl w)⟩
theorem iPlain0100_c (r : DRule) (Ab : Option Addr) (cb : Nat) (An : Option Addr) (cn : Nat) (At : Option Addr) (ct : Nat) (Ak : Option Addr) (ck : Nat) (kids : Int) (w : World) (hl : r.bytes.length ≤ 9223372036854775807 ∧ r.names.length ≤ 9223372036854775807 ∧ r.tags.length ≤ 9223372036854775807 ∧ r.kids.length ≤ 9223372036854775807) :
 Gives Tryz.prog 88 #[vrule r (.slice Ab r.bytes.length cb) (.slice An r.names.length cn) (.slice At r.tags.length ct) (.slice Ak r.kids.length ck), .bool false, .bool true, .bool false, .bool false, .int .i64 kids] w (.bool (plainB r false true false false kids)) := by
 obtain ⟨l1, l2, l3, l4⟩ := hl
 unfold plainB
 obtain ⟨nm, kind, size, little, bytes, names, tags, kd⟩ := r
 unfold vrule
 dsimp only at *
 cases g_size : (size == 0)
 ·skip
  go_enter Tryz.func88, Tryz.ntmps88
  go_wp2
  go_ret
  exact ⟨ret_bool (by simp [*]), Ext_alloc _ (Ext.refl w)⟩
 cases g_names : (names.length == 0)
 ·have k_names : (((names.length : Nat) : Int) == 0) = false := by simpa using g_names
  go_enter Tryz.func88, Tryz.ntmps88
  go_wp2
  go_ret
  exact ⟨ret_bool (by simp [*]), Ext_alloc _ (Ext.refl w)⟩
 have k_names : (((names.length : Nat) : Int) == 0) = true := by simpa using g_names
 cases g_tags : (tags.length == 0)
 ·have k_tags : (((tags.length : Nat) : Int) == 0) = false := by simpa using g_tags
  go_enter Tryz.func88, Tryz.ntmps88
  go_wp2
  go_ret
  exact ⟨ret_bool (by simp [*]), Ext_alloc _ (Ext.refl w)⟩
 have k_tags : (((tags.length : Nat) : Int) == 0) = true := by simpa using g_tags
 by_cases hk : kids < 0
 ·have dk : decide (kids < 0) = true := by simpa using hk
  go_enter Tryz.func88, Tryz.ntmps88
  go_wp2
  go_ret
  exact ⟨ret_bool (by simp [*]), Ext_alloc _ (Ext.refl w)⟩
 ·have dk : decide (kids < 0) = false := by simpa using hk
  by_cases hq : ((kd.length : Int) = kids)
  ·have k_kids : ((kd.length : Int) == kids) = true := by simpa using hq
   have HQ := Lib.hid hq; clear hq
   go_enter Tryz.func88, Tryz.ntmps88
   go_wp2
   go_ret
   exact ⟨ret_bool (by have := HQ.out; simp [*]), Ext_alloc _ (Ext.refl w)⟩
  ·have k_kids : ((kd.length : Int) == kids) = false := by simpa using hq
   go_enter Tryz.func88, Tryz.ntmps88
   go_wp2
   go_ret
   exact ⟨ret_bool (by simp [*]), Ext_alloc _ (Ext.refl w)⟩
theorem iPlain0000_c (r : DRule) (Ab : Option Addr) (cb : Nat) (An : Option Addr) (cn : Nat) (At : Option Addr) (ct : Nat) (Ak : Option Addr) (ck : Nat) (kids : Int) (w : World) (hl : r.bytes.length ≤ 9223372036854775807 ∧ r.names.length ≤ 9223372036854775807 ∧ r.tags.length ≤ 9223372036854775807 ∧ r.kids.length ≤ 9223372036854775807) :
 Gives Tryz.prog 88 #[vrule r (.slice Ab r.bytes.length cb) (.slice An r.names.length cn) (.slice At r.tags.length ct) (.slice Ak r.kids.length ck), .bool false, .bool false, .bool false, .bool false, .int .i64 kids] w (.bool (plainB r false false false false kids)) := by
 obtain ⟨l1, l2, l3, l4⟩ := hl
 unfold plainB
 obtain ⟨nm, kind, size, little, bytes, names, tags, kd⟩ := r
 unfold vrule
 dsimp only at *
 cases g_size : (size == 0)
 ·skip
  go_enter Tryz.func88, Tryz.ntmps88
  go_wp2
  go_ret
  exact ⟨ret_bool (by simp [*]), Ext_alloc _ (Ext.refl w)⟩
 cases g_bytes : (bytes.length == 0)
 ·have k_bytes : (((bytes.length : Nat) : Int) == 0) = false := by simpa using g_bytes
  go_enter Tryz.func88, Tryz.ntmps88
  go_wp2
  go_ret
  exact ⟨ret_bool (by simp [*]), Ext_alloc _ (Ext.refl w)⟩
 have k_bytes : (((bytes.length : Nat) : Int) == 0) = true := by simpa using g_bytes
 cases g_names : (names.length == 0)
 ·have k_names : (((names.length : Nat) : Int) == 0) = false := by simpa using g_names
  go_enter Tryz.func88, Tryz.ntmps88
  go_wp2
  go_ret
  exact ⟨ret_bool (by simp [*]), Ext_alloc _ (Ext.refl w)⟩
 have k_names : (((names.length : Nat) : Int) == 0) = true := by simpa using g_names
 cases g_tags : (tags.length == 0)
 ·have k_tags : (((tags.length : Nat) : Int) == 0) = false := by simpa using g_tags
  go_enter Tryz.func88, Tryz.ntmps88
  go_wp2
  go_ret
  exact ⟨ret_bool (by simp [*]), Ext_alloc _ (Ext.refl w)⟩
 have k_tags : (((tags.length : Nat) : Int) == 0) = true := by simpa using g_tags
 by_cases hk : kids < 0
 ·have dk : decide (kids < 0) = true := by simpa using hk
  go_enter Tryz.func88, Tryz.ntmps88
  go_wp2
  go_ret
  exact ⟨ret_bool (by simp [*]), Ext_alloc _ (Ext.refl w)⟩
 ·have dk : decide (kids < 0) = false := by simpa using hk
  by_cases hq : ((kd.length : Int) = kids)
  ·have k_kids : ((kd.length : Int) == kids) = true := by simpa using hq
   have HQ := Lib.hid hq; clear hq
   go_enter Tryz.func88, Tryz.ntmps88
   go_wp2
   go_ret
   exact ⟨ret_bool (by have := HQ.out; simp [*]), Ext_alloc _ (Ext.refl w)⟩
  ·have k_kids : ((kd.length : Int) == kids) = false := by simpa using hq
   go_enter Tryz.func88, Tryz.ntmps88
   go_wp2
   go_ret
   exact ⟨ret_bool (by simp [*]), Ext_alloc _ (Ext.refl w)⟩
theorem iPlain0010_c (r : DRule) (Ab : Option Addr) (cb : Nat) (An : Option Addr) (cn : Nat) (At : Option Addr) (ct : Nat) (Ak : Option Addr) (ck : Nat) (kids : Int) (w : World) (hl : r.bytes.length ≤ 9223372036854775807 ∧ r.names.length ≤ 9223372036854775807 ∧ r.tags.length ≤ 9223372036854775807 ∧ r.kids.length ≤ 9223372036854775807) :
 Gives Tryz.prog 88 #[vrule r (.slice Ab r.bytes.length cb) (.slice An r.names.length cn) (.slice At r.tags.length ct) (.slice Ak r.kids.length ck), .bool false, .bool false, .bool true, .bool false, .int .i64 kids] w (.bool (plainB r false false true false kids)) := by
 obtain ⟨l1, l2, l3, l4⟩ := hl
 unfold plainB
 obtain ⟨nm, kind, size, little, bytes, names, tags, kd⟩ := r
 unfold vrule
 dsimp only at *
 cases g_size : (size == 0)
 ·skip
  go_enter Tryz.func88, Tryz.ntmps88
  go_wp2
  go_ret
  exact ⟨ret_bool (by simp [*]), Ext_alloc _ (Ext.refl w)⟩
 cases g_bytes : (bytes.length == 0)
 ·have k_bytes : (((bytes.length : Nat) : Int) == 0) = false := by simpa using g_bytes
  go_enter Tryz.func88, Tryz.ntmps88
  go_wp2
  go_ret
  exact ⟨ret_bool (by simp [*]), Ext_alloc _ (Ext.refl w)⟩
 have k_bytes : (((bytes.length : Nat) : Int) == 0) = true := by simpa using g_bytes
 cases g_tags : (tags.length == 0)
 ·have k_tags : (((tags.length : Nat) : Int) == 0) = false := by simpa using g_tags
  go_enter Tryz.func88, Tryz.ntmps88
  go_wp2
  go_ret
  exact ⟨ret_bool (by simp [*]), Ext_alloc _ (Ext.refl w)⟩
 have k_tags : (((tags.length : Nat) : Int) == 0) = true := by simpa using g_tags
 by_cases hk : kids < 0
 ·have dk : decide (kids < 0) = true := by simpa using hk
  go_enter Tryz.func88, Tryz.ntmps88
  go_wp2
  go_ret
  exact ⟨ret_bool (by simp [*]), Ext_alloc _ (Ext.refl w)⟩
 ·have dk : decide (kids < 0) = false := by simpa using hk
  by_cases hq : ((kd.length : Int) = kids)
  ·have k_kids : ((kd.length : Int) == kids) = true := by simpa using hq
   have HQ := Lib.hid hq; clear hq
   go_enter Tryz.func88, Tryz.ntmps88
   go_wp2
   go_ret
   exact ⟨ret_bool (by have := HQ.out; simp [*]), Ext_alloc _ (Ext.refl w)⟩
  ·have k_kids : ((kd.length : Int) == kids) = false := by simpa using hq
   go_enter Tryz.func88, Tryz.ntmps88
   go_wp2
   go_ret
   exact ⟨ret_bool (by simp [*]), Ext_alloc _ (Ext.refl w)⟩
theorem iPlain0001_c (r : DRule) (Ab : Option Addr) (cb : Nat) (An : Option Addr) (cn : Nat) (At : Option Addr) (ct : Nat) (Ak : Option Addr) (ck : Nat) (kids : Int) (w : World) (hl : r.bytes.length ≤ 9223372036854775807 ∧ r.names.length ≤ 9223372036854775807 ∧ r.tags.length ≤ 9223372036854775807 ∧ r.kids.length ≤ 9223372036854775807) :
 Gives Tryz.prog 88 #[vrule r (.slice Ab r.bytes.length cb) (.slice An r.names.length cn) (.slice At r.tags.length ct) (.slice Ak r.kids.length ck), .bool false, .bool false, .bool false, .bool true, .int .i64 kids] w (.bool (plainB r false false false true kids)) := by
 obtain ⟨l1, l2, l3, l4⟩ := hl
 unfold plainB
 obtain ⟨nm, kind, size, little, bytes, names, tags, kd⟩ := r
 unfold vrule
 dsimp only at *
 cases g_size : (size == 0)
 ·skip
  go_enter Tryz.func88, Tryz.ntmps88
  go_wp2
  go_ret
  exact ⟨ret_bool (by simp [*]), Ext_alloc _ (Ext.refl w)⟩
 cases g_bytes : (bytes.length == 0)
 ·have k_bytes : (((bytes.length : Nat) : Int) == 0) = false := by simpa using g_bytes
  go_enter Tryz.func88, Tryz.ntmps88
  go_wp2
  go_ret
  exact ⟨ret_bool (by simp [*]), Ext_alloc _ (Ext.refl w)⟩
 have k_bytes : (((bytes.length : Nat) : Int) == 0) = true := by simpa using g_bytes
 cases g_names : (names.length == 0)
 ·have k_names : (((names.length : Nat) : Int) == 0) = false := by simpa using g_names
  go_enter Tryz.func88, Tryz.ntmps88
  go_wp2
  go_ret
  exact ⟨ret_bool (by simp [*]), Ext_alloc _ (Ext.refl w)⟩
 have k_names : (((names.length : Nat) : Int) == 0) = true := by simpa using g_names
 by_cases hk : kids < 0
 ·have dk : decide (kids < 0) = true := by simpa using hk
  go_enter Tryz.func88, Tryz.ntmps88
  go_wp2
  go_ret
  exact ⟨ret_bool (by simp [*]), Ext_alloc _ (Ext.refl w)⟩
 ·have dk : decide (kids < 0) = false := by simpa using hk
  by_cases hq : ((kd.length : Int) = kids)
  ·have k_kids : ((kd.length : Int) == kids) = true := by simpa using hq
   have HQ := Lib.hid hq; clear hq
   go_enter Tryz.func88, Tryz.ntmps88
   go_wp2
   go_ret
   exact ⟨ret_bool (by have := HQ.out; simp [*]), Ext_alloc _ (Ext.refl w)⟩
  ·have k_kids : ((kd.length : Int) == kids) = false := by simpa using hq
   go_enter Tryz.func88, Tryz.ntmps88
   go_wp2
   go_ret
   exact ⟨ret_bool (by simp [*]), Ext_alloc _ (Ext.refl w)⟩
theorem sShape1000_c (r : DRule) (Ab : Option Addr) (cb : Nat) (An : Option Addr) (cn : Nat) (At : Option Addr) (ct : Nat) (Ak : Option Addr) (ck : Nat) (kids : Int) (w : World) (hl : r.bytes.length ≤ 9223372036854775807 ∧ r.names.length ≤ 9223372036854775807 ∧ r.tags.length ≤ 9223372036854775807 ∧ r.kids.length ≤ 9223372036854775807) :
 Gives Tryz.prog 94 #[vrule r (.slice Ab r.bytes.length cb) (.slice An r.names.length cn) (.slice At r.tags.length ct) (.slice Ak r.kids.length ck), .bool true, .bool false, .bool false, .bool false, .int .i64 kids] w (.bool (plainB r true false false false kids && (!r.little || r.kind == 1))) := by
 obtain ⟨l1, l2, l3, l4⟩ := hl
 unfold plainB
 obtain ⟨nm, kind, size, little, bytes, names, tags, kd⟩ := r
 unfold vrule
 dsimp only at *
 cases g_bytes : (bytes.length == 0)
 ·have k_bytes : (((bytes.length : Nat) : Int) == 0) = false := by simpa using g_bytes
  go_enter Tryz.func94, Tryz.ntmps94
  go_wp2
  go_ret
  exact ⟨ret_bool (by simp [*]), Ext_alloc _ (Ext.refl w)⟩
 have k_bytes : (((bytes.length : Nat) : Int) == 0) = true := by simpa using g_bytes
 cases g_names : (names.length == 0)
 ·have k_names : (((names.length : Nat) : Int) == 0) = false := by simpa using g_names
  go_enter Tryz.func94, Tryz.ntmps94
  go_wp2
  go_ret
  exact ⟨ret_bool (by simp [*]), Ext_alloc _ (Ext.refl w)⟩
 have k_names : (((names.length : Nat) : Int) == 0) = true := by simpa using g_names
 cases g_tags : (tags.length == 0)
 ·have k_tags : (((tags.length : Nat) : Int) == 0) = false := by simpa using g_tags
  go_enter Tryz.func94, Tryz.ntmps94
  go_wp2
  go_ret
  exact ⟨ret_bool (by simp [*]), Ext_alloc _ (Ext.refl w)⟩
 have k_tags : (((tags.length : Nat) : Int) == 0) = true := by simpa using g_tags
 by_cases hk : kids < 0
 ·have dk : decide (kids < 0) = true := by simpa using hk
  cases little
  ·go_enter Tryz.func94, Tryz.ntmps94
   go_wp2
   go_ret
   exact ⟨ret_bool (by simp [*]), Ext_alloc _ (Ext.refl w)⟩
  ·cases g_kind : (kind == 1)
   all_goals
    go_enter Tryz.func94, Tryz.ntmps94
    go_wp2
    go_ret
    exact ⟨ret_bool (by simp [*]), Ext_alloc _ (Ext.refl w)⟩
 ·have dk : decide (kids < 0) = false := by simpa using hk
  by_cases hq : ((kd.length : Int) = kids)
  ·have k_kids : ((kd.length : Int) == kids) = true := by simpa using hq
   have HQ := Lib.hid hq; clear hq
   cases little
   ·go_enter Tryz.func94, Tryz.ntmps94
    go_wp2
    go_ret
    exact ⟨ret_bool (by have := HQ.out; simp [*]), Ext_alloc _ (Ext.refl w)⟩
   ·cases g_kind : (kind == 1)
    all_goals
     go_enter Tryz.func94, Tryz.ntmps94
     go_wp2
     go_ret
     exact ⟨ret_bool (by have := HQ.out; simp [*]), Ext_alloc _ (Ext.refl w)⟩
  ·have k_kids : ((kd.length : Int) == kids) = false := by simpa using hq
   go_enter Tryz.func94, Tryz.ntmps94
   go_wp2
   go_ret
   exact ⟨ret_bool (by simp [*]), Ext_alloc _ (Ext.refl w)⟩
theorem sShape0100_c (r : DRule) (Ab : Option Addr) (cb : Nat) (An : Option Addr) (cn : Nat) (At : Option Addr) (ct : Nat) (Ak : Option Addr) (ck : Nat) (kids : Int) (w : World) (hl : r.bytes.length ≤ 9223372036854775807 ∧ r.names.length ≤ 9223372036854775807 ∧ r.tags.length ≤ 9223372036854775807 ∧ r.kids.length ≤ 9223372036854775807) :
 Gives Tryz.prog 94 #[vrule r (.slice Ab r.bytes.length cb) (.slice An r.names.length cn) (.slice At r.tags.length ct) (.slice Ak r.kids.length ck), .bool false, .bool true, .bool false, .bool false, .int .i64 kids] w (.bool (plainB r false true false false kids && (!r.little || r.kind == 1))) := by
 obtain ⟨l1, l2, l3, l4⟩ := hl
 unfold plainB
 obtain ⟨nm, kind, size, little, bytes, names, tags, kd⟩ := r
 unfold vrule
 dsimp only at *
 cases g_size : (size == 0)
 ·skip
  go_enter Tryz.func94, Tryz.ntmps94
  go_wp2
  go_ret
  exact ⟨ret_bool (by simp [*]), Ext_alloc _ (Ext.refl w)⟩
 cases g_names : (names.length == 0)
 ·have k_names : (((names.length : Nat) : Int) == 0) = false := by simpa using g_names
  go_enter Tryz.func94, Tryz.ntmps94
  go_wp2
  go_ret
  exact ⟨ret_bool (by simp [*]), Ext_alloc _ (Ext.refl w)⟩
 have k_names : (((names.length : Nat) : Int) == 0) = true := by simpa using g_names
 cases g_tags : (tags.length == 0)
 ·have k_tags : (((tags.length : Nat) : Int) == 0) = false := by simpa using g_tags
  go_enter Tryz.func94, Tryz.ntmps94
  go_wp2
  go_ret
  exact ⟨ret_bool (by simp [*]), Ext_alloc _ (Ext.refl w)⟩
 have k_tags : (((tags.length : Nat) : Int) == 0) = true := by simpa using g_tags
 by_cases hk : kids < 0
 ·have dk : decide (kids < 0) = true := by simpa using hk
  cases little
  ·go_enter Tryz.func94, Tryz.ntmps94
   go_wp2
   go_ret
   exact ⟨ret_bool (by simp [*]), Ext_alloc _ (Ext.refl w)⟩
  ·cases g_kind : (kind == 1)
   all_goals
    go_enter Tryz.func94, Tryz.ntmps94
    go_wp2
    go_ret
    exact ⟨ret_bool (by simp [*]), Ext_alloc _ (Ext.refl w)⟩
 ·have dk : decide (kids < 0) = false := by simpa using hk
  by_cases hq : ((kd.length : Int) = kids)
  ·have k_kids : ((kd.length : Int) == kids) = true := by simpa using hq
   have HQ := Lib.hid hq; clear hq
   cases little
   ·go_enter Tryz.func94, Tryz.ntmps94
    go_wp2
    go_ret
    exact ⟨ret_bool (by have := HQ.out; simp [*]), Ext_alloc _ (Ext.refl w)⟩
   ·cases g_kind : (kind == 1)
    all_goals
     go_enter Tryz.func94, Tryz.ntmps94
     go_wp2
     go_ret
     exact ⟨ret_bool (by have := HQ.out; simp [*]), Ext_alloc _ (Ext.refl w)⟩
  ·have k_kids : ((kd.length : Int) == kids) = false := by simpa using hq
   go_enter Tryz.func94, Tryz.ntmps94
   go_wp2
   go_ret
   exact ⟨ret_bool (by simp [*]), Ext_alloc _ (Ext.refl w)⟩
theorem sShape0000_c (r : DRule) (Ab : Option Addr) (cb : Nat) (An : Option Addr) (cn : Nat) (At : Option Addr) (ct : Nat) (Ak : Option Addr) (ck : Nat) (kids : Int) (w : World) (hl : r.bytes.length ≤ 9223372036854775807 ∧ r.names.length ≤ 9223372036854775807 ∧ r.tags.length ≤ 9223372036854775807 ∧ r.kids.length ≤ 9223372036854775807) :
 Gives Tryz.prog 94 #[vrule r (.slice Ab r.bytes.length cb) (.slice An r.names.length cn) (.slice At r.tags.length ct) (.slice Ak r.kids.length ck), .bool false, .bool false, .bool false, .bool false, .int .i64 kids] w (.bool (plainB r false false false false kids && (!r.little || r.kind == 1))) := by
 obtain ⟨l1, l2, l3, l4⟩ := hl
 unfold plainB
 obtain ⟨nm, kind, size, little, bytes, names, tags, kd⟩ := r
 unfold vrule
 dsimp only at *
 cases g_size : (size == 0)
 ·skip
  go_enter Tryz.func94, Tryz.ntmps94
  go_wp2
  go_ret
  exact ⟨ret_bool (by simp [*]), Ext_alloc _ (Ext.refl w)⟩
 cases g_bytes : (bytes.length == 0)
 ·have k_bytes : (((bytes.length : Nat) : Int) == 0) = false := by simpa using g_bytes
  go_enter Tryz.func94, Tryz.ntmps94
  go_wp2
  go_ret
  exact ⟨ret_bool (by simp [*]), Ext_alloc _ (Ext.refl w)⟩
 have k_bytes : (((bytes.length : Nat) : Int) == 0) = true := by simpa using g_bytes
 cases g_names : (names.length == 0)
 ·have k_names : (((names.length : Nat) : Int) == 0) = false := by simpa using g_names
  go_enter Tryz.func94, Tryz.ntmps94
  go_wp2
  go_ret
  exact ⟨ret_bool (by simp [*]), Ext_alloc _ (Ext.refl w)⟩
 have k_names : (((names.length : Nat) : Int) == 0) = true := by simpa using g_names
 cases g_tags : (tags.length == 0)
 ·have k_tags : (((tags.length : Nat) : Int) == 0) = false := by simpa using g_tags
  go_enter Tryz.func94, Tryz.ntmps94
  go_wp2
  go_ret
  exact ⟨ret_bool (by simp [*]), Ext_alloc _ (Ext.refl w)⟩
 have k_tags : (((tags.length : Nat) : Int) == 0) = true := by simpa using g_tags
 by_cases hk : kids < 0
 ·have dk : decide (kids < 0) = true := by simpa using hk
  cases little
  ·go_enter Tryz.func94, Tryz.ntmps94
   go_wp2
   go_ret
   exact ⟨ret_bool (by simp [*]), Ext_alloc _ (Ext.refl w)⟩
  ·cases g_kind : (kind == 1)
   all_goals
    go_enter Tryz.func94, Tryz.ntmps94
    go_wp2
    go_ret
    exact ⟨ret_bool (by simp [*]), Ext_alloc _ (Ext.refl w)⟩
 ·have dk : decide (kids < 0) = false := by simpa using hk
  by_cases hq : ((kd.length : Int) = kids)
  ·have k_kids : ((kd.length : Int) == kids) = true := by simpa using hq
   have HQ := Lib.hid hq; clear hq
   cases little
   ·go_enter Tryz.func94, Tryz.ntmps94
    go_wp2
    go_ret
    exact ⟨ret_bool (by have := HQ.out; simp [*]), Ext_alloc _ (Ext.refl w)⟩
   ·cases g_kind : (kind == 1)
    all_goals
     go_enter Tryz.func94, Tryz.ntmps94
     go_wp2
     go_ret
     exact ⟨ret_bool (by have := HQ.out; simp [*]), Ext_alloc _ (Ext.refl w)⟩
  ·have k_kids : ((kd.length : Int) == kids) = false := by simpa using hq
   go_enter Tryz.func94, Tryz.ntmps94
   go_wp2
   go_ret
   exact ⟨ret_bool (by simp [*]), Ext_alloc _ (Ext.refl w)⟩
theorem sShape0010_c (r : DRule) (Ab : Option Addr) (cb : Nat) (An : Option Addr) (cn : Nat) (At : Option Addr) (ct : Nat) (Ak : Option Addr) (ck : Nat) (kids : Int) (w : World) (hl : r.bytes.length ≤ 9223372036854775807 ∧ r.names.length ≤ 9223372036854775807 ∧ r.tags.length ≤ 9223372036854775807 ∧ r.kids.length ≤ 9223372036854775807) :
 Gives Tryz.prog 94 #[vrule r (.slice Ab r.bytes.length cb) (.slice An r.names.length cn) (.slice At r.tags.length ct) (.slice Ak r.kids.length ck), .bool false, .bool false, .bool true, .bool false, .int .i64 kids] w (.bool (plainB r false false true false kids && (!r.little || r.kind == 1))) := by
 obtain ⟨l1, l2, l3, l4⟩ := hl
 unfold plainB
 obtain ⟨nm, kind, size, little, bytes, names, tags, kd⟩ := r
 unfold vrule
 dsimp only at *
 cases g_size : (size == 0)
 ·skip
  go_enter Tryz.func94, Tryz.ntmps94
  go_wp2
  go_ret
  exact ⟨ret_bool (by simp [*]), Ext_alloc _ (Ext.refl w)⟩
 cases g_bytes : (bytes.length == 0)
 ·have k_bytes : (((bytes.length : Nat) : Int) == 0) = false := by simpa using g_bytes
  go_enter Tryz.func94, Tryz.ntmps94
  go_wp2
  go_ret
  exact ⟨ret_bool (by simp [*]), Ext_alloc _ (Ext.refl w)⟩
 have k_bytes : (((bytes.length : Nat) : Int) == 0) = true := by simpa using g_bytes
 cases g_tags : (tags.length == 0)
 ·have k_tags : (((tags.length : Nat) : Int) == 0) = false := by simpa using g_tags
  go_enter Tryz.func94, Tryz.ntmps94
  go_wp2
  go_ret
  exact ⟨ret_bool (by simp [*]), Ext_alloc _ (Ext.refl w)⟩
 have k_tags : (((tags.length : Nat) : Int) == 0) = true := by simpa using g_tags
 by_cases hk : kids < 0
 ·have dk : decide (kids < 0) = true := by simpa using hk
  cases little
  ·go_enter Tryz.func94, Tryz.ntmps94
   go_wp2
   go_ret
   exact ⟨ret_bool (by simp [*]), Ext_alloc _ (Ext.refl w)⟩
  ·cases g_kind : (kind == 1)
   all_goals
    go_enter Tryz.func94, Tryz.ntmps94
    go_wp2
    go_ret
    exact ⟨ret_bool (by simp [*]), Ext_alloc _ (Ext.refl w)⟩
 ·have dk : decide (kids < 0) = false := by simpa using hk
  by_cases hq : ((kd.length : Int) = kids)
  ·have k_kids : ((kd.length : Int) == kids) = true := by simpa using hq
   have HQ := Lib.hid hq; clear hq
   cases little
   ·go_enter Tryz.func94, Tryz.ntmps94
    go_wp2
    go_ret
    exact ⟨ret_bool (by have := HQ.out; simp [*]), Ext_alloc _ (Ext.refl w)⟩
   ·cases g_kind : (kind == 1)
    all_goals
     go_enter Tryz.func94, Tryz.ntmps94
     go_wp2
     go_ret
     exact ⟨ret_bool (by have := HQ.out; simp [*]), Ext_alloc _ (Ext.refl w)⟩
  ·have k_kids : ((kd.length : Int) == kids) = false := by simpa using hq
   go_enter Tryz.func94, Tryz.ntmps94
   go_wp2
   go_ret
   exact ⟨ret_bool (by simp [*]), Ext_alloc _ (Ext.refl w)⟩
theorem sShape0001_c (r : DRule) (Ab : Option Addr) (cb : Nat) (An : Option Addr) (cn : Nat) (At : Option Addr) (ct : Nat) (Ak : Option Addr) (ck : Nat) (kids : Int) (w : World) (hl : r.bytes.length ≤ 9223372036854775807 ∧ r.names.length ≤ 9223372036854775807 ∧ r.tags.length ≤ 9223372036854775807 ∧ r.kids.length ≤ 9223372036854775807) :
 Gives Tryz.prog 94 #[vrule r (.slice Ab r.bytes.length cb) (.slice An r.names.length cn) (.slice At r.tags.length ct) (.slice Ak r.kids.length ck), .bool false, .bool false, .bool false, .bool true, .int .i64 kids] w (.bool (plainB r false false false true kids && (!r.little || r.kind == 1))) := by
 obtain ⟨l1, l2, l3, l4⟩ := hl
 unfold plainB
 obtain ⟨nm, kind, size, little, bytes, names, tags, kd⟩ := r
 unfold vrule
 dsimp only at *
 cases g_size : (size == 0)
 ·skip
  go_enter Tryz.func94, Tryz.ntmps94
  go_wp2
  go_ret
  exact ⟨ret_bool (by simp [*]), Ext_alloc _ (Ext.refl w)⟩
 cases g_bytes : (bytes.length == 0)
 ·have k_bytes : (((bytes.length : Nat) : Int) == 0) = false := by simpa using g_bytes
  go_enter Tryz.func94, Tryz.ntmps94
  go_wp2
  go_ret
  exact ⟨ret_bool (by simp [*]), Ext_alloc _ (Ext.refl w)⟩
 have k_bytes : (((bytes.length : Nat) : Int) == 0) = true := by simpa using g_bytes
 cases g_names : (names.length == 0)
 ·have k_names : (((names.length : Nat) : Int) == 0) = false := by simpa using g_names
  go_enter Tryz.func94, Tryz.ntmps94
  go_wp2
  go_ret
  exact ⟨ret_bool (by simp [*]), Ext_alloc _ (Ext.refl w)⟩
 have k_names : (((names.length : Nat) : Int) == 0) = true := by simpa using g_names
 by_cases hk : kids < 0
 ·have dk : decide (kids < 0) = true := by simpa using hk
  cases little
  ·go_enter Tryz.func94, Tryz.ntmps94
   go_wp2
   go_ret
   exact ⟨ret_bool (by simp [*]), Ext_alloc _ (Ext.refl w)⟩
  ·cases g_kind : (kind == 1)
   all_goals
    go_enter Tryz.func94, Tryz.ntmps94
    go_wp2
    go_ret
    exact ⟨ret_bool (by simp [*]), Ext_alloc _ (Ext.refl w)⟩
 ·have dk : decide (kids < 0) = false := by simpa using hk
  by_cases hq : ((kd.length : Int) = kids)
  ·have k_kids : ((kd.length : Int) == kids) = true := by simpa using hq
   have HQ := Lib.hid hq; clear hq
   cases little
   ·go_enter Tryz.func94, Tryz.ntmps94
    go_wp2
    go_ret
    exact ⟨ret_bool (by have := HQ.out; simp [*]), Ext_alloc _ (Ext.refl w)⟩
   ·cases g_kind : (kind == 1)
    all_goals
     go_enter Tryz.func94, Tryz.ntmps94
     go_wp2
     go_ret
     exact ⟨ret_bool (by have := HQ.out; simp [*]), Ext_alloc _ (Ext.refl w)⟩
  ·have k_kids : ((kd.length : Int) == kids) = false := by simpa using hq
   go_enter Tryz.func94, Tryz.ntmps94
   go_wp2
   go_ret
   exact ⟨ret_bool (by simp [*]), Ext_alloc _ (Ext.refl w)⟩
theorem RdS.lens {w : World} {r : DRule} {Ab : Option Addr} {cb : Nat} {An : Option Addr} {cn : Nat} {At : Option Addr} {ct : Nat} {Ak : Option Addr} {ck : Nat} (h : RdS w r Ab cb An cn At ct Ak ck) :
 r.bytes.length ≤ 9223372036854775807 ∧ r.names.length ≤ 9223372036854775807 ∧ r.tags.length ≤ 9223372036854775807 ∧ r.kids.length ≤ 9223372036854775807 := ⟨h.b.len, h.n.len, h.t.len, h.k.len⟩
theorem Rd0.take {α : Type} {f : α → Value} {w : World} {A : Option Addr} {l : List α} {c : Nat} (h : Rd0 f w A l c) (n : Nat) (hn : n ≤ l.length) : Rd0 f w A (l.take n) c := by
 have hl : (l.take n).length = n := by simp; omega
 refine ⟨by have := h.cap; omega, by have := h.len; omega, fun hp => ?_⟩
 obtain ⟨b, off, h1, h2, h3⟩ := h.2.2 (by omega)
 refine ⟨b, off, h1, h2, fun w' e i hi => ?_⟩
 rw [h3 w' e i (by omega)]
 simp
theorem nameOk_at {l : List ByteArray} {k : Nat} (h : k < l.length) : nameOk l k = (isName l[k] && !hasNm (l.take k) l[k]) := by
 unfold nameOk; rw [List.getElem?_eq_getElem h]
theorem tagOk_at {lim : Int} {l : List Int} {k : Nat} (h : k < l.length) : tagOk lim l k = (between l[k] 0 lim && (k == 0 || decide (l.getD (k - 1) 0 < l[k]))) := by
 unfold tagOk; rw [List.getElem?_eq_getElem h]
def namesB (l : List ByteArray) : Bool := between l.length 1 8 && allN l.length (nameOk l)
theorem sNames_c (A : Option Addr) (l : List ByteArray) (c : Nat) (w : World) (h : Rd0 vstr w A l c) (hw : ∀ s ∈ l, s.size ≤ 9223372036854775807) :
 Gives Tryz.prog 95 #[.slice A l.length c] w (.bool (namesB l)) := by
 have hl := h.len
 have hcap := h.cap
 go_enter Tryz.func95, Tryz.ntmps95
 go_wp2
 go_loopw [3] (fun i wr => ∃ k : Nat, k ≤ l.length ∧ i = .int .i64 k ∧ Hid (∀ j, j < k → nameOk l j = true) ∧ Ext w wr) (fun i _ => l.length - (intOf i).toNat)
 case atStart => exact ⟨0, by omega, rfl, (fun j hj => by omega), Ext.refl _⟩
 case round =>
  obtain ⟨k, hk, rfl, ht, he⟩ := hrel
  by_cases hlt : k < l.length
  ·obtain ⟨b, off, hA, hb, hc⟩ := h.at k hlt
   have HT := h.take k (by omega)
   have HN := Lib.hid (nameOk_at hlt)
   have NO : Hid (nameOk l k = false → namesB l = false) := fun hf => by unfold namesB; rw [allN_no hlt hf, Bool.and_false]
   have YES : Hid (nameOk l k = true → ∀ j, j < k + 1 → nameOk l j = true) := upTo ht.out
   have CN := Lib.hid (fun w => sIsName_c l[k] w (hw _ (List.getElem_mem hlt)))
   have hlk : (l.take k).length = k := by simp; omega
   have CC : Hid (∀ w' s, Ext w w' → Gives Tryz.prog 101 #[.slice A k c, .string s] w' (.bool (hasNm (l.take k) s))) := fun w' s e => by
    have := sContains_c A (l.take k) c s w' (HT.ext e)
    rwa [hlk] at this
   subst hA
   generalize l[k] = x at *
   generalize isName x = q1 at *
   have hc0 : (0 : Int) ≤ (k : Int) := by omega
   have hc1 : (k : Int) ≤ (c : Int) := by omega
   clear HT h hlk
   cases q1
   ·have HR : Hid (nameOk l k = false) := by show _ = _; rw [HN.out]; rfl
    have HE := Lib.hid (NO.out HR.out)
    clear NO YES HN HR
    go_wp2_with fail
    refine wp_region_quiet_below (by kernel_rfl) (by kernel_rfl) ?_
    repeat (go_big_quiet_step ((go_at_call 86; exact Calls.regrown_of (CN.out _))))
    refine wpQuiet_nil ?_
    rintro w1 ⟨⟨nq, osq⟩, hq⟩
    have ew1 := ext_of_q hq
    clear hq nq osq
    go_wp2
    go_ret
    exact ⟨ret_bool HE.out.symm, he.trans ew1⟩
   ·have CD := Lib.hid (fun w' e => CC.out w' x e)
    generalize hasNm (l.take k) x = q2 at *
    cases q2
    ·have HR : Hid (nameOk l k = true) := by show _ = _; rw [HN.out]; rfl
     have HE := Lib.hid (YES.out HR.out)
     clear NO YES HN HR CC
     go_wp2_with fail
     refine wp_region_quiet_below (by kernel_rfl) (by kernel_rfl) ?_
     repeat (go_big_quiet_step ((first | (go_at_call 86; exact Calls.regrown_of (CN.out _)) | (go_at_call 101; exact Calls.regrown_of (CD.out _ (by first | assumption | exact Ext_regrown _ _ he))))))
     refine wpQuiet_nil ?_
     rintro w1 ⟨⟨nq, osq⟩, hq⟩
     have ew1 := ext_of_q hq
     clear hq nq osq
     go_wp2
     go_roundw
     case rel => exact ⟨k+1, by omega, by go_num, HE.out, he.trans ew1⟩
     case measure => simp [intOf]; omega
    ·have HR : Hid (nameOk l k = false) := by show _ = _; rw [HN.out]; rfl
     have HE := Lib.hid (NO.out HR.out)
     clear NO YES HN HR CC
     go_wp2_with fail
     refine wp_region_quiet_below (by kernel_rfl) (by kernel_rfl) ?_
     repeat (go_big_quiet_step ((first | (go_at_call 86; exact Calls.regrown_of (CN.out _)) | (go_at_call 101; exact Calls.regrown_of (CD.out _ (by first | assumption | exact Ext_regrown _ _ he))))))
     refine wpQuiet_nil ?_
     rintro w1 ⟨⟨nq, osq⟩, hq⟩
     have ew1 := ext_of_q hq
     clear hq nq osq
     go_wp2
     go_ret
     exact ⟨ret_bool HE.out.symm, he.trans ew1⟩
  ·have HE : Hid (namesB l = (decide ((1 : Int) ≤ (l.length : Int)) && decide ((l.length : Int) ≤ 8))) := by
    show _ = _; unfold namesB between; rw [allN_yes (fun j hj => ht.out j (by omega)), Bool.and_true]
   go_wp2_with (go_at_call 51; refine (l1In_c _ _ _ _).mono ?_; rintro _ w1 ⟨rfl, he1⟩)
   go_ret
   exact ⟨ret_bool HE.out.symm, he.trans he1⟩
theorem iSeq_c (r : DRule) (Ab : Option Addr) (cb : Nat) (An : Option Addr) (cn : Nat) (At : Option Addr) (ct : Nat) (Ak : Option Addr) (ck : Nat) (w : World) (h : RdS w r Ab cb An cn At ct Ak ck) (hw : WfR r) :
 Gives Tryz.prog 90 #[vrule r (.slice Ab r.bytes.length cb) (.slice An r.names.length cn) (.slice At r.tags.length ct) (.slice Ak r.kids.length ck)] w (.bool (seqOk r)) := by
 have eb := Ext_alloc (.cells #[.string r.nm, .int .i64 r.kind, .int .i64 r.size, .bool r.little, .slice Ab r.bytes.length cb, .slice An r.names.length cn, .slice At r.tags.length ct, .slice Ak r.kids.length ck] 51) (Ext.refl w)
 have B := fun w' (e : Ext (w.alloc (.cells #[.string r.nm, .int .i64 r.kind, .int .i64 r.size, .bool r.little, .slice Ab r.bytes.length cb, .slice An r.names.length cn, .slice At r.tags.length ct, .slice Ak r.kids.length ck] 51)) w') => boxed e
 have CP := Lib.hid (fun w => iPlain0010_c r Ab cb An cn At ct Ak ck (-1) w h.lens)
 obtain ⟨hl1, hl2, hl3, hl4⟩ := h.lens
 have hN := h.n
 have hcap := hN.cap
 have hwn := Lib.hid hw.names
 clear h hw
 unfold seqOk
 generalize plainB r false false true false (-1) = p at *
 unfold vrule at *
 cases p
 ·go_enter Tryz.func90, Tryz.ntmps90
  go_wp2_with fail
  refine (CP.out _).mono ?_; rintro _ w1 ⟨rfl, he1⟩
  go_wp2
  go_ret
  exact ⟨ret_bool (by simp), eb.trans he1⟩
 by_cases hlen : r.kids.length = r.names.length
 ·have CI := Lib.hid (fun w => iInRange_c (r.kids.length : Int) 1 8 w)
  have HB : Hid (between r.kids.length 1 8 = (decide ((1 : Int) ≤ (r.kids.length : Int)) && decide ((r.kids.length : Int) ≤ 8))) := rfl
  have g1 : ((r.kids.length : Int) != (r.names.length : Int)) = false := by simp [hlen]
  have g2 : (r.kids.length == r.names.length) = true := by simp [hlen]
  rw [← HB.out] at CI
  rw [g2]
  clear hlen g2 HB
  generalize between r.kids.length 1 8 = p2 at *
  cases p2
  ·go_enter Tryz.func90, Tryz.ntmps90
   go_wp2_with fail
   refine (CP.out _).mono ?_; rintro _ w1 ⟨rfl, he1⟩
   go_wp2_with fail
   refine (CI.out _).mono ?_; rintro _ w2 ⟨rfl, he2⟩
   go_wp2
   go_ret
   exact ⟨ret_bool (by simp), eb.trans (he1.trans he2)⟩
  ·go_enter Tryz.func90, Tryz.ntmps90
   go_wp2_with fail
   refine (CP.out _).mono ?_; rintro _ w1 ⟨rfl, he1⟩
   go_wp2_with fail
   refine (CI.out _).mono ?_; rintro _ w2 ⟨rfl, he2⟩
   have e2 := he1.trans he2
   clear he1 he2 g1 CP CI
   go_wp2
   go_loopw [27] (fun i wr => ∃ k : Nat, k ≤ r.names.length ∧ i = .int .i64 k ∧ Hid (∀ j, j < k → nameOk r.names j = true) ∧ Ext (w.alloc (.cells #[.string r.nm, .int .i64 r.kind, .int .i64 r.size, .bool r.little, .slice Ab r.bytes.length cb, .slice An r.names.length cn, .slice At r.tags.length ct, .slice Ak r.kids.length ck] 51)) wr) (fun i _ => r.names.length - (intOf i).toNat)
   case atStart => exact ⟨0, by omega, rfl, (fun j hj => by omega), e2⟩
   case round =>
    clear e2
    obtain ⟨k, hk, rfl, ht, he⟩ := hrel
    by_cases hlt : k < r.names.length
    ·have HT := hN.take k (by omega)
     have HNm := Lib.hid (nameOk_at hlt)
     have NO : Hid (nameOk r.names k = false → allN r.names.length (nameOk r.names) = false) := fun hf => allN_no hlt hf
     have YES : Hid (nameOk r.names k = true → ∀ j, j < k + 1 → nameOk r.names j = true) := upTo ht.out
     have CN := Lib.hid (fun w => iIsName_c r.names[k] w (hwn.out _ (List.getElem_mem hlt)))
     have hlk : (r.names.take k).length = k := by simp; omega
     have CC : Hid (∀ w' s, Ext w w' → Gives Tryz.prog 40 #[.slice An k cn, .string s] w' (.bool (hasNm (r.names.take k) s))) := fun w' s e => by
      have := iContains_c An (r.names.take k) cn s w' (HT.ext e)
      rwa [hlk] at this
     obtain ⟨b, off, rfl, hb, hc⟩ := hN.at k hlt
     have hcw := fun w' (e : Ext _ w') => hc w' (eb.trans e)
     generalize r.names[k] = x at *
     generalize isName x = q1 at *
     have hc0 : (0 : Int) ≤ (k : Int) := by omega
     have hc1 : (k : Int) ≤ (cn : Int) := by omega
     clear HT hlk hc hN
     cases q1
     ·have HR : Hid (nameOk r.names k = false) := by show _ = _; rw [HNm.out]; rfl
      have HE := Lib.hid (NO.out HR.out)
      clear NO YES HNm HR
      go_wp2_with fail
      refine (CN.out _).mono ?_; rintro _ w3 ⟨rfl, he3⟩
      go_wp2
      go_ret
      exact ⟨ret_bool (by rw [HE.out]; simp), eb.trans (he.trans he3)⟩
     ·have CD := Lib.hid (fun w' e => CC.out w' x e)
      generalize hasNm (r.names.take k) x = q2 at *
      cases q2
      ·have HR : Hid (nameOk r.names k = true) := by show _ = _; rw [HNm.out]; rfl
       have HE := Lib.hid (YES.out HR.out)
       clear NO YES HNm HR CC
       go_wp2_with fail
       refine (CN.out _).mono ?_; rintro _ w3 ⟨rfl, he3⟩
       have e3 := he.trans he3
       go_wp2_with fail
       refine (CD.out _ (eb.trans e3)).mono ?_; rintro _ w4 ⟨rfl, he4⟩
       go_wp2
       go_roundw
       case rel => exact ⟨k+1, by omega, by go_num, HE.out, e3.trans he4⟩
       case measure => simp [intOf]; omega
      ·have HR : Hid (nameOk r.names k = false) := by show _ = _; rw [HNm.out]; rfl
       have HE := Lib.hid (NO.out HR.out)
       clear NO YES HNm HR CC
       go_wp2_with fail
       refine (CN.out _).mono ?_; rintro _ w3 ⟨rfl, he3⟩
       have e3 := he.trans he3
       go_wp2_with fail
       refine (CD.out _ (eb.trans e3)).mono ?_; rintro _ w4 ⟨rfl, he4⟩
       go_wp2
       go_ret
       exact ⟨ret_bool (by rw [HE.out]; simp), eb.trans (e3.trans he4)⟩
    ·have HE : Hid (allN r.names.length (nameOk r.names) = true) := allN_yes (fun j hj => ht.out j (by omega))
     go_wp2
     go_ret
     exact ⟨ret_bool (by rw [HE.out]; simp), eb.trans he⟩
 ·have g1 : ((r.kids.length : Int) != (r.names.length : Int)) = true := by simp; omega
  have g2 : (r.kids.length == r.names.length) = false := by simpa using hlen
  rw [g2]
  clear hlen g2
  go_enter Tryz.func90, Tryz.ntmps90
  go_wp2_with fail
  refine (CP.out _).mono ?_; rintro _ w1 ⟨rfl, he1⟩
  go_wp2
  go_ret
  exact ⟨ret_bool (by simp), eb.trans he1⟩
def tagsB (ds : List DRule) (r : DRule) : Bool := r.kids.length == r.tags.length + 1 && between r.tags.length 1 8 && allN r.tags.length (tagOk (limD ds (r.kids.getD 0 0)) r.tags)
theorem tagOk_zero {lim : Int} {l : List Int} {k : Nat} (h : k < l.length) (hz : k = 0) : tagOk lim l k = between l[k] 0 lim := by rw [tagOk_at h]; simp [hz]
theorem tagOk_succ {lim : Int} {l : List Int} {m : Nat} (h : m + 1 < l.length) : tagOk lim l (m + 1) = (between l[m + 1] 0 lim && !decide (l[m + 1] ≤ l[m])) := by
 rw [tagOk_at h]
 have : l.getD (m + 1 - 1) 0 = l[m] := by simp [List.getD_eq_getElem?_getD, List.getElem?_eq_getElem (show m < l.length by omega)]
 rw [this]
 by_cases h2 : l[m] < l[m + 1]
 ·rw [decide_eq_true h2, decide_eq_false (show ¬ l[m + 1] ≤ l[m] by omega)]; simp
 ·rw [decide_eq_false h2, decide_eq_true (show l[m + 1] ≤ l[m] by omega)]; simp
theorem wrap_back (m : Nat) (h : m ≤ 9223372036854775807) : IntKind.i64.wrap ((m : Int) + 1 - 1) = (m : Int) := by
 rw [show (m : Int) + 1 - 1 = (m : Int) by omega]; exact IntWalk.i64_in _ (by omega)
theorem sTags_c (A : Option Addr) (ds : List DRule) (c : Nat) (r : DRule) (Ab : Option Addr) (cb : Nat) (An : Option Addr) (cn : Nat) (At : Option Addr) (ct : Nat) (Ak : Option Addr) (ck : Nat) (w : World) (hd : RdD w A ds c) (h : RdS w r Ab cb An cn At ct Ak ck) (hs : ShortR r) :
 Gives Tryz.prog 96 #[vdesc (.slice A ds.length c), vrule r (.slice Ab r.bytes.length cb) (.slice An r.names.length cn) (.slice At r.tags.length ct) (.slice Ak r.kids.length ck)] w (.bool (tagsB ds r)) := by
 have eb := Ext_alloc (.cells #[.string r.nm, .int .i64 r.kind, .int .i64 r.size, .bool r.little, .slice Ab r.bytes.length cb, .slice An r.names.length cn, .slice At r.tags.length ct, .slice Ak r.kids.length ck] 51) (Ext_alloc (.cells #[.slice A ds.length c] 26) (Ext.refl w))
 have BX := fun w' (e : Ext ((w.alloc (.cells #[.slice A ds.length c] 26)).alloc (.cells #[.string r.nm, .int .i64 r.kind, .int .i64 r.size, .bool r.little, .slice Ab r.bytes.length cb, .slice An r.names.length cn, .slice At r.tags.length ct, .slice Ak r.kids.length ck] 51)) w') => boxed2 e
 have B0 := fun w' e => (BX w' e).1
 have B1 := fun w' e => (BX w' e).2.1
 clear BX
 obtain ⟨hl1, hl2, hl3, hl4⟩ := hs
 have hT := h.t; have hK := h.k
 clear h
 unfold vrule vdesc at *
 unfold tagsB
 by_cases hlen : r.kids.length = r.tags.length + 1
 ·have g1 : ((r.kids.length : Int) != (r.tags.length : Int) + 1) = false := by simp; omega
  have g2 : (r.kids.length == r.tags.length + 1) = true := by simpa using hlen
  rw [g2]
  have CI := Lib.hid (fun w => l1In_c (r.tags.length : Int) 1 8 w)
  have HB : Hid (between r.tags.length 1 8 = (decide ((1 : Int) ≤ (r.tags.length : Int)) && decide ((r.tags.length : Int) ≤ 8))) := rfl
  rw [← HB.out] at CI
  have HLEN := Lib.hid hlen
  clear g2 HB hlen
  generalize between r.tags.length 1 8 = p2 at *
  cases p2
  ·go_enter Tryz.func96, Tryz.ntmps96
   go_wp2_with fail
   refine (CI.out _).mono ?_; rintro _ w2 ⟨rfl, he2⟩
   go_wp2
   go_ret
   exact ⟨ret_bool (by simp), eb.trans he2⟩
  ·have hk0 : 0 < r.kids.length := by have := HLEN.out; omega
   obtain ⟨bk, ok, rfl, hbk, hck⟩ := hK.at 0 hk0
   have HG : Hid (r.kids.getD 0 0 = r.kids[0]) := by show _ = _; simp [List.getD_eq_getElem?_getD, List.getElem?_eq_getElem hk0]
   rw [HG.out]
   rw [Nat.add_zero] at hck
   generalize r.kids[0] = kid at *
   have CL := Lib.hid (fun w h => sLimit_c A ds c kid w h)
   unfold vdesc at CL
   generalize limD ds kid = lim at *
   have hck' := fun w' (e : Ext _ w') => hck w' (eb.trans e)
   clear hck hK HG
   go_enter Tryz.func96, Tryz.ntmps96
   go_wp2_with fail
   refine (CI.out _).mono ?_; rintro _ w2 ⟨rfl, he2⟩
   clear CI g1
   go_wp2
   go_loopw [5] (fun i wr => ∃ k : Nat, k ≤ r.tags.length ∧ i = .int .i64 k ∧ Hid (∀ j, j < k → tagOk lim r.tags j = true) ∧ Ext _ wr) (fun i _ => r.tags.length - (intOf i).toNat)
   case atStart => exact ⟨0, by omega, rfl, (fun j hj => by omega), he2⟩
   case round =>
    clear he2
    obtain ⟨k, hk, rfl, ht, he⟩ := hrel
    by_cases hlt : k < r.tags.length
    ·obtain ⟨b, off, rfl, hb, hc⟩ := hT.at k hlt
     have hc' := fun w' (e : Ext _ w') => hc w' (eb.trans e)
     have NO : Hid (tagOk lim r.tags k = false → allN r.tags.length (tagOk lim r.tags) = false) := fun hf => allN_no hlt hf
     have YES : Hid (tagOk lim r.tags k = true → ∀ j, j < k + 1 → tagOk lim r.tags j = true) := upTo ht.out
     have CB := Lib.hid (fun w => l1In_c r.tags[k] 0 lim w)
     have HB : Hid (between r.tags[k] 0 lim = (decide ((0 : Int) ≤ r.tags[k]) && decide (r.tags[k] ≤ lim))) := rfl
     rw [← HB.out] at CB
     clear HB
     rcases Nat.eq_zero_or_pos k with hz | hpos
     ·have HN := Lib.hid (tagOk_zero (lim := lim) hlt hz)
      have d1 : decide ((0 : Int) < (k : Int)) = false := by simp; omega
      have d2 : decide (0 < k) = false := by simp; omega
      clear hz
      generalize r.tags[k] = x at *
      generalize between x 0 lim = q1 at *
      clear hc hT ht
      cases q1
      ·have HE := Lib.hid (NO.out HN.out); clear NO YES HN
       go_wp2_with fail
       refine wp_region_quiet_below (by kernel_rfl) (by kernel_rfl) ?_
       repeat (go_big_quiet_step ((first | (go_at_call 93; exact Calls.regrown_of (CL.out _ (hd.ext (eb.trans (by first | assumption | exact Ext_regrown _ _ he))))) | (go_at_call 51; exact Calls.regrown_of (CB.out _)))))
       refine wpQuiet_nil ?_
       rintro w1 ⟨⟨nq, osq⟩, hq⟩
       have ew1 := ext_of_q hq
       clear hq nq osq
       go_wp2
       go_ret
       exact ⟨ret_bool (by rw [HE.out]; simp), eb.trans (he.trans ew1)⟩
      ·have HE := Lib.hid (YES.out HN.out); clear NO YES HN
       go_wp2_with fail
       refine wp_region_quiet_below (by kernel_rfl) (by kernel_rfl) ?_
       repeat (go_big_quiet_step ((first | (go_at_call 93; exact Calls.regrown_of (CL.out _ (hd.ext (eb.trans (by first | assumption | exact Ext_regrown _ _ he))))) | (go_at_call 51; exact Calls.regrown_of (CB.out _)))))
       refine wpQuiet_nil ?_
       rintro w1 ⟨⟨nq, osq⟩, hq⟩
       have ew1 := ext_of_q hq
       clear hq nq osq
       go_wp2
       go_roundw
       case rel => exact ⟨k+1, by omega, by go_num, HE.out, he.trans ew1⟩
       case measure => simp [intOf]; omega
     ·obtain ⟨m, rfl⟩ : ∃ m, k = m + 1 := ⟨k - 1, by omega⟩
      have HN := Lib.hid (tagOk_succ (lim := lim) hlt)
      obtain ⟨b', off', hh, _, hcm⟩ := hT.at m (by omega)
      obtain ⟨rfl, rfl⟩ : b = b' ∧ off = off' := by injection hh with hh; injection hh with h1 h2; exact ⟨h1, h2⟩
      have hcm' := fun w' (e : Ext _ w') => hcm w' (eb.trans e)
      have hwm := wrap_back m (by omega)
      generalize r.tags[m + 1] = x at *
      generalize r.tags[m] = y at *
      generalize between x 0 lim = q1 at *
      clear hc hT ht hcm hh
      cases q1
      ·have HE := Lib.hid (NO.out (HN.out.trans (by simp))); clear NO YES HN
       go_wp2_with fail
       refine wp_region_quiet_below (by kernel_rfl) (by kernel_rfl) ?_
       repeat (go_big_quiet_step ((first | (go_at_call 93; exact Calls.regrown_of (CL.out _ (hd.ext (eb.trans (by first | assumption | exact Ext_regrown _ _ he))))) | (go_at_call 51; exact Calls.regrown_of (CB.out _)))))
       refine wpQuiet_nil ?_
       rintro w1 ⟨⟨nq, osq⟩, hq⟩
       have ew1 := ext_of_q hq
       clear hq nq osq
       go_wp2
       go_ret
       exact ⟨ret_bool (by rw [HE.out]; simp), eb.trans (he.trans ew1)⟩
      ·cases hq : decide (x ≤ y)
       ·have HE := Lib.hid (YES.out (HN.out.trans (by rw [hq]; simp))); clear NO YES HN
        go_wp2_with fail
        refine wp_region_quiet_below (by kernel_rfl) (by kernel_rfl) ?_
        repeat (go_big_quiet_step ((first | (go_at_call 93; exact Calls.regrown_of (CL.out _ (hd.ext (eb.trans (by first | assumption | exact Ext_regrown _ _ he))))) | (go_at_call 51; exact Calls.regrown_of (CB.out _)))))
        refine wpQuiet_nil ?_
        rintro w1 ⟨⟨nq, osq⟩, hq⟩
        have ew1 := ext_of_q hq
        clear hq nq osq
        go_wp2
        go_roundw
        case rel => exact ⟨m+2, by omega, by go_num, HE.out, he.trans ew1⟩
        case measure => simp [intOf]; omega
       ·have HE := Lib.hid (NO.out (HN.out.trans (by rw [hq]; simp))); clear NO YES HN
        go_wp2_with fail
        refine wp_region_quiet_below (by kernel_rfl) (by kernel_rfl) ?_
        repeat (go_big_quiet_step ((first | (go_at_call 93; exact Calls.regrown_of (CL.out _ (hd.ext (eb.trans (by first | assumption | exact Ext_regrown _ _ he))))) | (go_at_call 51; exact Calls.regrown_of (CB.out _)))))
        refine wpQuiet_nil ?_
        rintro w1 ⟨⟨nq, osq⟩, hq⟩
        have ew1 := ext_of_q hq
        clear hq nq osq
        go_wp2
        go_ret
        exact ⟨ret_bool (by rw [HE.out]; simp), eb.trans (he.trans ew1)⟩
    ·have HE : Hid (allN r.tags.length (tagOk lim r.tags) = true) := allN_yes (fun j hj => ht.out j (by omega))
     go_wp2
     go_ret
     exact ⟨ret_bool (by rw [HE.out]; simp), eb.trans he⟩
 ·have g1 : ((r.kids.length : Int) != (r.tags.length : Int) + 1) = true := by simp; omega
  have g2 : (r.kids.length == r.tags.length + 1) = false := by simpa using hlen
  rw [g2]
  clear hlen g2
  go_enter Tryz.func96, Tryz.ntmps96
  go_wp2
  go_ret
  exact ⟨ret_bool (by simp), eb⟩
theorem plainB_kids {r : DRule} {a b c d : Bool} {k : Nat} (h : plainB r a b c d (k : Int) = true) : r.kids.length = k := by
 unfold plainB at h
 simp only [Bool.and_eq_true, Bool.or_eq_true, decide_eq_true_eq] at h
 omega
theorem lim_pos {lim : Int} (hl : lim = -1 ∨ lim = 255 ∨ lim = 65535 ∨ lim = 16777215 ∨ lim = 4294967295) {l : List Int} (h : 0 < l.length) (ht : ∀ j, j < l.length → tagOk lim l j = true) : decide (0 < lim) = true := by
 have h0 := ht 0 h
 rw [tagOk_zero h rfl] at h0
 unfold between at h0
 simp only [Bool.and_eq_true, decide_eq_true_eq] at h0
 simp; omega
theorem iChoice_c (A : Option Addr) (ds : List DRule) (c : Nat) (r : DRule) (Ab : Option Addr) (cb : Nat) (An : Option Addr) (cn : Nat) (At : Option Addr) (ct : Nat) (Ak : Option Addr) (ck : Nat) (w : World) (hd : RdD w A ds c) (h : RdS w r Ab cb An cn At ct Ak ck) (hs : ShortR r) :
 Gives Tryz.prog 91 #[vdesc (.slice A ds.length c), vrule r (.slice Ab r.bytes.length cb) (.slice An r.names.length cn) (.slice At r.tags.length ct) (.slice Ak r.kids.length ck)] w (.bool (choOk ds r)) := by
 have eb := Ext_alloc (.cells #[.string r.nm, .int .i64 r.kind, .int .i64 r.size, .bool r.little, .slice Ab r.bytes.length cb, .slice An r.names.length cn, .slice At r.tags.length ct, .slice Ak r.kids.length ck] 51) (Ext_alloc (.cells #[.slice A ds.length c] 26) (Ext.refl w))
 have BX := fun w' (e : Ext ((w.alloc (.cells #[.slice A ds.length c] 26)).alloc (.cells #[.string r.nm, .int .i64 r.kind, .int .i64 r.size, .bool r.little, .slice Ab r.bytes.length cb, .slice An r.names.length cn, .slice At r.tags.length ct, .slice Ak r.kids.length ck] 51)) w') => boxed2 e
 have B0 := fun w' e => (BX w' e).1
 have B1 := fun w' e => (BX w' e).2.1
 clear BX
 have CP := Lib.hid (fun w => iPlain0001_c r Ab cb An cn At ct Ak ck ((r.tags.length : Int) + 1) w h.lens)
 obtain ⟨hl1, hl2, hl3, hl4⟩ := hs
 have hT := h.t; have hK := h.k
 clear h
 have HK : Hid (plainB r false false false true ((r.tags.length : Int) + 1) = true → r.kids.length = r.tags.length + 1) := fun hp => plainB_kids (k := r.tags.length + 1) (by rw [Int.natCast_add]; exact hp)
 unfold choOk
 generalize plainB r false false false true ((r.tags.length : Int) + 1) = p at *
 unfold vrule vdesc at *
 cases p
 ·go_enter Tryz.func91, Tryz.ntmps91
  go_wp2_with fail
  refine (CP.out _).mono ?_; rintro _ w1 ⟨rfl, he1⟩
  go_wp2
  go_ret
  exact ⟨ret_bool (by simp), eb.trans he1⟩
 have hlen := HK.out rfl
 have CI := Lib.hid (fun w => iInRange_c (r.tags.length : Int) 1 8 w)
 have HB : Hid (between r.tags.length 1 8 = (decide ((1 : Int) ≤ (r.tags.length : Int)) && decide ((r.tags.length : Int) ≤ 8))) := rfl
 rw [← HB.out] at CI
 have HP : Hid (between r.tags.length 1 8 = true → 0 < r.tags.length) := by intro hq; unfold between at hq; simp only [Bool.and_eq_true, decide_eq_true_eq] at hq; omega
 have HLEN := Lib.hid hlen
 clear HB hlen HK
 generalize between r.tags.length 1 8 = p2 at *
 cases p2
 ·go_enter Tryz.func91, Tryz.ntmps91
  go_wp2_with fail
  refine (CP.out _).mono ?_; rintro _ w1 ⟨rfl, he1⟩
  go_wp2_with fail
  refine (CI.out _).mono ?_; rintro _ w2 ⟨rfl, he2⟩
  go_wp2
  go_ret
  exact ⟨ret_bool (by simp), eb.trans (he1.trans he2)⟩
 ·have hpos := HP.out rfl
  have hk0 : 0 < r.kids.length := by have := HLEN.out; omega
  obtain ⟨bk, ok, rfl, hbk, hck⟩ := hK.at 0 hk0
  have HG : Hid (r.kids.getD 0 0 = r.kids[0]) := by show _ = _; simp [List.getD_eq_getElem?_getD, List.getElem?_eq_getElem hk0]
  rw [HG.out]
  rw [Nat.add_zero] at hck
  generalize r.kids[0] = kid at *
  have CL := Lib.hid (fun w h => iLimit_c A ds c kid w h)
  have HLC := Lib.hid (limD_cases ds kid)
  unfold vdesc at CL
  generalize limD ds kid = lim at *
  have hck' := fun w' (e : Ext _ w') => hck w' (eb.trans e)
  clear hck hK HG
  go_enter Tryz.func91, Tryz.ntmps91
  go_wp2_with fail
  refine (CP.out _).mono ?_; rintro _ w1 ⟨rfl, he1⟩
  go_wp2_with fail
  refine (CI.out _).mono ?_; rintro _ w2 ⟨rfl, he2⟩
  have e2 := he1.trans he2
  clear CI CP he1 he2
  go_wp2_with fail
  refine wp_region_quiet_below (by kernel_rfl) (by kernel_rfl) ?_
  repeat (go_big_quiet_step ((go_at_call 89; exact Calls.regrown_of (CL.out _ (hd.ext (eb.trans (by first | assumption | exact Ext_regrown _ _ e2)))))))
  refine wpQuiet_nil ?_
  rintro w3 ⟨⟨nq, osq⟩, hq⟩
  have ew3 := ext_of_q hq
  clear hq nq osq
  have e3 := e2.trans ew3
  clear e2 ew3 CL
  go_wp2
  go_loopw [31] (fun i wr => ∃ k : Nat, k ≤ r.tags.length ∧ i = .int .i64 k ∧ Hid (∀ j, j < k → tagOk lim r.tags j = true) ∧ Ext _ wr) (fun i _ => r.tags.length - (intOf i).toNat)
  case atStart => exact ⟨0, by omega, rfl, (fun j hj => by omega), e3⟩
  case round =>
   clear e3
   obtain ⟨k, hk, rfl, ht, he⟩ := hrel
   by_cases hlt : k < r.tags.length
   ·obtain ⟨b, off, rfl, hb, hc⟩ := hT.at k hlt
    have hc' := fun w' (e : Ext _ w') => hc w' (eb.trans e)
    have NO : Hid (tagOk lim r.tags k = false → allN r.tags.length (tagOk lim r.tags) = false) := fun hf => allN_no hlt hf
    have YES : Hid (tagOk lim r.tags k = true → ∀ j, j < k + 1 → tagOk lim r.tags j = true) := upTo ht.out
    have CB := Lib.hid (fun w => iInRange_c r.tags[k] 0 lim w)
    have HB : Hid (between r.tags[k] 0 lim = (decide ((0 : Int) ≤ r.tags[k]) && decide (r.tags[k] ≤ lim))) := rfl
    rw [← HB.out] at CB
    clear HB
    rcases Nat.eq_zero_or_pos k with hz | hpos'
    ·have HN := Lib.hid (tagOk_zero (lim := lim) hlt hz)
     have d1 : decide ((0 : Int) < (k : Int)) = false := by simp; omega
     have d2 : decide (0 < k) = false := by simp; omega
     clear hz
     generalize r.tags[k] = x at *
     generalize between x 0 lim = q1 at *
     clear hc hT ht
     cases q1
     ·have HE := Lib.hid (NO.out HN.out); clear NO YES HN
      go_wp2_with fail
      refine (CB.out _).mono ?_; rintro _ w4 ⟨rfl, he4⟩
      go_wp2
      go_ret
      exact ⟨ret_bool (by rw [HE.out]; simp), eb.trans (he.trans he4)⟩
     ·have HE := Lib.hid (YES.out HN.out); clear NO YES HN
      go_wp2_with fail
      refine (CB.out _).mono ?_; rintro _ w4 ⟨rfl, he4⟩
      go_wp2
      go_roundw
      case rel => exact ⟨k+1, by omega, by go_num, HE.out, he.trans he4⟩
      case measure => simp [intOf]; omega
    ·obtain ⟨m, rfl⟩ : ∃ m, k = m + 1 := ⟨k - 1, by omega⟩
     have HN := Lib.hid (tagOk_succ (lim := lim) hlt)
     obtain ⟨b', off', hh, _, hcm⟩ := hT.at m (by omega)
     obtain ⟨rfl, rfl⟩ : b = b' ∧ off = off' := by injection hh with hh; injection hh with h1 h2; exact ⟨h1, h2⟩
     have hcm' := fun w' (e : Ext _ w') => hcm w' (eb.trans e)
     have hwm := wrap_back m (by omega)
     generalize r.tags[m + 1] = x at *
     generalize r.tags[m] = y at *
     generalize between x 0 lim = q1 at *
     clear hc hT ht hcm hh
     cases q1
     ·have HE := Lib.hid (NO.out (HN.out.trans (by simp))); clear NO YES HN
      go_wp2_with fail
      refine (CB.out _).mono ?_; rintro _ w4 ⟨rfl, he4⟩
      go_wp2
      go_ret
      exact ⟨ret_bool (by rw [HE.out]; simp), eb.trans (he.trans he4)⟩
     ·cases hq : decide (x ≤ y)
      ·have HE := Lib.hid (YES.out (HN.out.trans (by rw [hq]; simp))); clear NO YES HN
       go_wp2_with fail
       refine (CB.out _).mono ?_; rintro _ w4 ⟨rfl, he4⟩
       have e4 := he.trans he4
       go_wp2
       go_roundw
       case rel => exact ⟨m+2, by omega, by go_num, HE.out, e4⟩
       case measure => simp [intOf]; omega
      ·have HE := Lib.hid (NO.out (HN.out.trans (by rw [hq]; simp))); clear NO YES HN
       go_wp2_with fail
       refine (CB.out _).mono ?_; rintro _ w4 ⟨rfl, he4⟩
       have e4 := he.trans he4
       go_wp2
       go_ret
       exact ⟨ret_bool (by rw [HE.out]; simp), eb.trans e4⟩
   ·have HE : Hid (allN r.tags.length (tagOk lim r.tags) = true) := allN_yes (fun j hj => ht.out j (by omega))
    have HL0 := Lib.hid (lim_pos HLC.out hpos (fun j hj => ht.out j (by omega)))
    have hl0 := HL0.out
    go_wp2
    go_ret
    exact ⟨ret_bool (by rw [HE.out]; simp), eb.trans he⟩
theorem iKind1_c (A : Option Addr) (ds : List DRule) (c : Nat) (r : DRule) (Ab : Option Addr) (cb : Nat) (An : Option Addr) (cn : Nat) (At : Option Addr) (ct : Nat) (Ak : Option Addr) (ck : Nat) (w : World) (hd : RdD w A ds c) (h : RdS w r Ab cb An cn At ct Ak ck) (hs : ShortR r) (hw : WfR r) (hk : r.kind = 1) :
 Gives Tryz.prog 80 #[vdesc (.slice A ds.length c), vrule r (.slice Ab r.bytes.length cb) (.slice An r.names.length cn) (.slice At r.tags.length ct) (.slice Ak r.kids.length ck)] w (.bool (kindOk ds r)) := by
 have eb := Ext_alloc (.cells #[.string r.nm, .int .i64 r.kind, .int .i64 r.size, .bool r.little, .slice Ab r.bytes.length cb, .slice An r.names.length cn, .slice At r.tags.length ct, .slice Ak r.kids.length ck] 51) (Ext_alloc (.cells #[.slice A ds.length c] 26) (Ext.refl w))
 have BX := fun w' (e : Ext ((w.alloc (.cells #[.slice A ds.length c] 26)).alloc (.cells #[.string r.nm, .int .i64 r.kind, .int .i64 r.size, .bool r.little, .slice Ab r.bytes.length cb, .slice An r.names.length cn, .slice At r.tags.length ct, .slice Ak r.kids.length ck] 51)) w') => boxed2 e
 have B0 := fun w' e => (BX w' e).1
 have B1 := fun w' e => (BX w' e).2.1
 clear BX
 have t1 : (r.kind == 1) = true := by rw [hk]; rfl
 have t2 : (r.kind == 2) = false := by rw [hk]; rfl
 have t3 : (r.kind == 3) = false := by rw [hk]; rfl
 have t4 : (r.kind == 4) = false := by rw [hk]; rfl
 have t5 : (r.kind == 5) = false := by rw [hk]; rfl
 have t6 : (r.kind == 6) = false := by rw [hk]; rfl
 have t7 : (r.kind == 7) = false := by rw [hk]; rfl
 have t8 : (r.kind == 8) = false := by rw [hk]; rfl
 have t9 : (r.kind == 9) = false := by rw [hk]; rfl
 have t10 : (r.kind == 10) = false := by rw [hk]; rfl
 have HV : Hid ((kindOk ds r) = (plainB r true false false false 0 && (between r.size 1 4 && (!r.little || decide (1 < r.size))))) := by show _ = _; simp [kindOk, hk, Bool.and_assoc]
 rw [HV.out]
 have CP := Lib.hid (fun w => iPlain1000_c r Ab cb An cn At ct Ak ck 0 w h.lens)
 generalize (plainB r true false false false 0) = p at *
 clear HV hk
 have CI := Lib.hid (fun w => iInRange_c r.size 1 4 w)
 have HB : Hid (between r.size 1 4 = (decide (((1) : Int) ≤ r.size) && decide (r.size ≤ 4))) := rfl
 rw [← HB.out] at CI
 clear HB
 generalize between r.size 1 4 = q at *
 unfold vrule vdesc at *
 cases p
 ·go_enter Tryz.func80, Tryz.ntmps80
  go_wp2_with fail
  refine (CP.out _).mono ?_; rintro _ w1 ⟨rfl, he1⟩
  go_wp2
  go_ret
  exact ⟨ret_bool (by simp), eb.trans he1⟩
 cases q
 ·go_enter Tryz.func80, Tryz.ntmps80
  go_wp2_with fail
  refine (CP.out _).mono ?_; rintro _ w1 ⟨rfl, he1⟩
  go_wp2_with fail
  refine (CI.out _).mono ?_; rintro _ w2 ⟨rfl, he2⟩
  go_wp2
  go_ret
  exact ⟨ret_bool (by simp), eb.trans (he1.trans he2)⟩
 generalize r.little = li at *
 cases li
 all_goals
  cases hz : decide (1 < r.size)
  all_goals
   go_enter Tryz.func80, Tryz.ntmps80
   go_wp2_with fail
   refine (CP.out _).mono ?_; rintro _ w1 ⟨rfl, he1⟩
   go_wp2_with fail
   refine (CI.out _).mono ?_; rintro _ w2 ⟨rfl, he2⟩
   have e2 := he1.trans he2
   go_wp2
   go_ret
   exact ⟨ret_bool (by simp), eb.trans e2⟩
theorem iKind2_c (A : Option Addr) (ds : List DRule) (c : Nat) (r : DRule) (Ab : Option Addr) (cb : Nat) (An : Option Addr) (cn : Nat) (At : Option Addr) (ct : Nat) (Ak : Option Addr) (ck : Nat) (w : World) (hd : RdD w A ds c) (h : RdS w r Ab cb An cn At ct Ak ck) (hs : ShortR r) (hw : WfR r) (hk : r.kind = 2) :
 Gives Tryz.prog 80 #[vdesc (.slice A ds.length c), vrule r (.slice Ab r.bytes.length cb) (.slice An r.names.length cn) (.slice At r.tags.length ct) (.slice Ak r.kids.length ck)] w (.bool (kindOk ds r)) := by
 have eb := Ext_alloc (.cells #[.string r.nm, .int .i64 r.kind, .int .i64 r.size, .bool r.little, .slice Ab r.bytes.length cb, .slice An r.names.length cn, .slice At r.tags.length ct, .slice Ak r.kids.length ck] 51) (Ext_alloc (.cells #[.slice A ds.length c] 26) (Ext.refl w))
 have BX := fun w' (e : Ext ((w.alloc (.cells #[.slice A ds.length c] 26)).alloc (.cells #[.string r.nm, .int .i64 r.kind, .int .i64 r.size, .bool r.little, .slice Ab r.bytes.length cb, .slice An r.names.length cn, .slice At r.tags.length ct, .slice Ak r.kids.length ck] 51)) w') => boxed2 e
 have B0 := fun w' e => (BX w' e).1
 have B1 := fun w' e => (BX w' e).2.1
 clear BX
 have t1 : (r.kind == 1) = false := by rw [hk]; rfl
 have t2 : (r.kind == 2) = true := by rw [hk]; rfl
 have t3 : (r.kind == 3) = false := by rw [hk]; rfl
 have t4 : (r.kind == 4) = false := by rw [hk]; rfl
 have t5 : (r.kind == 5) = false := by rw [hk]; rfl
 have t6 : (r.kind == 6) = false := by rw [hk]; rfl
 have t7 : (r.kind == 7) = false := by rw [hk]; rfl
 have t8 : (r.kind == 8) = false := by rw [hk]; rfl
 have t9 : (r.kind == 9) = false := by rw [hk]; rfl
 have t10 : (r.kind == 10) = false := by rw [hk]; rfl
 have HV : Hid ((kindOk ds r) = (plainB r false true false false 0 && (between r.bytes.length 1 16))) := by show _ = _; simp [kindOk, hk, Bool.and_assoc]
 rw [HV.out]
 have CP := Lib.hid (fun w => iPlain0100_c r Ab cb An cn At ct Ak ck 0 w h.lens)
 generalize (plainB r false true false false 0) = p at *
 clear HV hk
 have CI := Lib.hid (fun w => iInRange_c (r.bytes.length : Int) 1 16 w)
 have HB : Hid (between r.bytes.length 1 16 = (decide (((1) : Int) ≤ (r.bytes.length : Int)) && decide ((r.bytes.length : Int) ≤ 16))) := rfl
 rw [← HB.out] at CI
 clear HB
 generalize between r.bytes.length 1 16 = q at *
 have hlb := h.lens.1
 unfold vrule vdesc at *
 cases p
 ·go_enter Tryz.func80, Tryz.ntmps80
  go_wp2_with fail
  refine (CP.out _).mono ?_; rintro _ w1 ⟨rfl, he1⟩
  go_wp2
  go_ret
  exact ⟨ret_bool (by simp), eb.trans he1⟩
 go_enter Tryz.func80, Tryz.ntmps80
 go_wp2_with fail
 refine (CP.out _).mono ?_; rintro _ w1 ⟨rfl, he1⟩
 go_wp2_with fail
 refine (CI.out _).mono ?_; rintro _ w2 ⟨rfl, he2⟩
 go_wp2
 go_ret
 exact ⟨ret_bool (by simp), eb.trans (he1.trans he2)⟩
theorem iKind3_c (A : Option Addr) (ds : List DRule) (c : Nat) (r : DRule) (Ab : Option Addr) (cb : Nat) (An : Option Addr) (cn : Nat) (At : Option Addr) (ct : Nat) (Ak : Option Addr) (ck : Nat) (w : World) (hd : RdD w A ds c) (h : RdS w r Ab cb An cn At ct Ak ck) (hs : ShortR r) (hw : WfR r) (hk : r.kind = 3) :
 Gives Tryz.prog 80 #[vdesc (.slice A ds.length c), vrule r (.slice Ab r.bytes.length cb) (.slice An r.names.length cn) (.slice At r.tags.length ct) (.slice Ak r.kids.length ck)] w (.bool (kindOk ds r)) := by
 have eb := Ext_alloc (.cells #[.string r.nm, .int .i64 r.kind, .int .i64 r.size, .bool r.little, .slice Ab r.bytes.length cb, .slice An r.names.length cn, .slice At r.tags.length ct, .slice Ak r.kids.length ck] 51) (Ext_alloc (.cells #[.slice A ds.length c] 26) (Ext.refl w))
 have BX := fun w' (e : Ext ((w.alloc (.cells #[.slice A ds.length c] 26)).alloc (.cells #[.string r.nm, .int .i64 r.kind, .int .i64 r.size, .bool r.little, .slice Ab r.bytes.length cb, .slice An r.names.length cn, .slice At r.tags.length ct, .slice Ak r.kids.length ck] 51)) w') => boxed2 e
 have B0 := fun w' e => (BX w' e).1
 have B1 := fun w' e => (BX w' e).2.1
 clear BX
 have t1 : (r.kind == 1) = false := by rw [hk]; rfl
 have t2 : (r.kind == 2) = false := by rw [hk]; rfl
 have t3 : (r.kind == 3) = true := by rw [hk]; rfl
 have t4 : (r.kind == 4) = false := by rw [hk]; rfl
 have t5 : (r.kind == 5) = false := by rw [hk]; rfl
 have t6 : (r.kind == 6) = false := by rw [hk]; rfl
 have t7 : (r.kind == 7) = false := by rw [hk]; rfl
 have t8 : (r.kind == 8) = false := by rw [hk]; rfl
 have t9 : (r.kind == 9) = false := by rw [hk]; rfl
 have t10 : (r.kind == 10) = false := by rw [hk]; rfl
 have HV : Hid ((kindOk ds r) = (plainB r true false false false 0 && (between r.size 1 64))) := by show _ = _; simp [kindOk, hk, Bool.and_assoc]
 rw [HV.out]
 have CP := Lib.hid (fun w => iPlain1000_c r Ab cb An cn At ct Ak ck 0 w h.lens)
 generalize (plainB r true false false false 0) = p at *
 clear HV hk
 have CI := Lib.hid (fun w => iInRange_c r.size 1 64 w)
 have HB : Hid (between r.size 1 64 = (decide (((1) : Int) ≤ r.size) && decide (r.size ≤ 64))) := rfl
 rw [← HB.out] at CI
 clear HB
 generalize between r.size 1 64 = q at *
 have hlb := h.lens.1
 unfold vrule vdesc at *
 cases p
 ·go_enter Tryz.func80, Tryz.ntmps80
  go_wp2_with fail
  refine (CP.out _).mono ?_; rintro _ w1 ⟨rfl, he1⟩
  go_wp2
  go_ret
  exact ⟨ret_bool (by simp), eb.trans he1⟩
 go_enter Tryz.func80, Tryz.ntmps80
 go_wp2_with fail
 refine (CP.out _).mono ?_; rintro _ w1 ⟨rfl, he1⟩
 go_wp2_with fail
 refine (CI.out _).mono ?_; rintro _ w2 ⟨rfl, he2⟩
 go_wp2
 go_ret
 exact ⟨ret_bool (by simp), eb.trans (he1.trans he2)⟩
theorem iKind4_c (A : Option Addr) (ds : List DRule) (c : Nat) (r : DRule) (Ab : Option Addr) (cb : Nat) (An : Option Addr) (cn : Nat) (At : Option Addr) (ct : Nat) (Ak : Option Addr) (ck : Nat) (w : World) (hd : RdD w A ds c) (h : RdS w r Ab cb An cn At ct Ak ck) (hs : ShortR r) (hw : WfR r) (hk : r.kind = 4) :
 Gives Tryz.prog 80 #[vdesc (.slice A ds.length c), vrule r (.slice Ab r.bytes.length cb) (.slice An r.names.length cn) (.slice At r.tags.length ct) (.slice Ak r.kids.length ck)] w (.bool (kindOk ds r)) := by
 have eb := Ext_alloc (.cells #[.string r.nm, .int .i64 r.kind, .int .i64 r.size, .bool r.little, .slice Ab r.bytes.length cb, .slice An r.names.length cn, .slice At r.tags.length ct, .slice Ak r.kids.length ck] 51) (Ext_alloc (.cells #[.slice A ds.length c] 26) (Ext.refl w))
 have BX := fun w' (e : Ext ((w.alloc (.cells #[.slice A ds.length c] 26)).alloc (.cells #[.string r.nm, .int .i64 r.kind, .int .i64 r.size, .bool r.little, .slice Ab r.bytes.length cb, .slice An r.names.length cn, .slice At r.tags.length ct, .slice Ak r.kids.length ck] 51)) w') => boxed2 e
 have B0 := fun w' e => (BX w' e).1
 have B1 := fun w' e => (BX w' e).2.1
 clear BX
 have t1 : (r.kind == 1) = false := by rw [hk]; rfl
 have t2 : (r.kind == 2) = false := by rw [hk]; rfl
 have t3 : (r.kind == 3) = false := by rw [hk]; rfl
 have t4 : (r.kind == 4) = true := by rw [hk]; rfl
 have t5 : (r.kind == 5) = false := by rw [hk]; rfl
 have t6 : (r.kind == 6) = false := by rw [hk]; rfl
 have t7 : (r.kind == 7) = false := by rw [hk]; rfl
 have t8 : (r.kind == 8) = false := by rw [hk]; rfl
 have t9 : (r.kind == 9) = false := by rw [hk]; rfl
 have t10 : (r.kind == 10) = false := by rw [hk]; rfl
 have HV : Hid ((kindOk ds r) = (plainB r false false false false 1 && (decide (0 < limD ds (r.kids.getD 0 0))))) := by show _ = _; simp [kindOk, hk, Bool.and_assoc]
 rw [HV.out]
 have CP := Lib.hid (fun w => iPlain0000_c r Ab cb An cn At ct Ak ck 1 w h.lens)
 have HKL : Hid (plainB r false false false false 1 = true → r.kids.length = 1) := plainB_kids (k := 1)
 have HPP : Hid ((plainB r false false false false 1) = true → plainB r false false false false 1 = true) := fun hq => hq
 have HKK := Lib.hid (fun hq => HKL.out (HPP.out hq)); clear HKL HPP
 generalize (plainB r false false false false 1) = p at *
 clear HV hk
 have h1 := h.k
 unfold vrule vdesc at *
 cases p
 ·go_enter Tryz.func80, Tryz.ntmps80
  go_wp2_with fail
  refine wp_region_quiet_below (by kernel_rfl) (by kernel_rfl) ?_
  repeat (go_big_quiet_step ((go_at_call 88; exact Calls.regrown_of (CP.out _))))
  refine wpQuiet_nil ?_
  rintro w1 ⟨⟨nq, osq⟩, hq⟩
  have ew1 := ext_of_q hq
  clear hq nq osq
  go_wp2
  go_ret
  exact ⟨ret_bool (by simp), eb.trans ew1⟩
 have hk0 : 0 < r.kids.length := by have := HKK.out rfl; omega
 obtain ⟨bk, ok, rfl, hbk, hck⟩ := h1.at 0 hk0
 have HG : Hid (r.kids.getD 0 0 = r.kids[0]) := by show _ = _; simp [List.getD_eq_getElem?_getD, List.getElem?_eq_getElem hk0]
 rw [HG.out]
 rw [Nat.add_zero] at hck
 generalize r.kids[0] = kid at *
 have CL := Lib.hid (fun w h => iLimit_c A ds c kid w h)
 unfold vdesc at CL
 generalize limD ds kid = lim at *
 have hck' := fun w' (e : Ext _ w') => hck w' (eb.trans e)
 clear hck h1 h HG HKK
 have hbe := Ext_drew (Ext.refl ((w.alloc (.cells #[.slice A ds.length c] 26)).alloc (.cells #[.string r.nm, .int .i64 r.kind, .int .i64 r.size, .bool r.little, .slice Ab r.bytes.length cb, .slice An r.names.length cn, .slice At r.tags.length ct, .slice (some ⟨bk, ok, none⟩) r.kids.length ck] 51)))
 go_enter Tryz.func80, Tryz.ntmps80
 go_wp2_with fail
 refine wp_region_quiet_below (by kernel_rfl) (by kernel_rfl) ?_
 repeat (go_big_quiet_step ((first | (go_at_call 88; exact Calls.regrown_of (CP.out _)) | (go_at_call 89; exact Calls.regrown_of (CL.out _ (hd.ext (eb.trans (by first | assumption | exact Ext_self _ | exact Ext_drew (Ext_self _) | exact Ext_regrown _ _ (Ext_self _)))))))))
 refine wpQuiet_nil ?_
 rintro w1 ⟨⟨nq, osq⟩, hq⟩
 have ew1 := ext_of_q hq
 clear hq nq osq
 go_wp2
 go_ret
 exact ⟨ret_bool (by simp), eb.trans ew1⟩
theorem iKind5_c (A : Option Addr) (ds : List DRule) (c : Nat) (r : DRule) (Ab : Option Addr) (cb : Nat) (An : Option Addr) (cn : Nat) (At : Option Addr) (ct : Nat) (Ak : Option Addr) (ck : Nat) (w : World) (hd : RdD w A ds c) (h : RdS w r Ab cb An cn At ct Ak ck) (hs : ShortR r) (hw : WfR r) (hk : r.kind = 5) :
 Gives Tryz.prog 80 #[vdesc (.slice A ds.length c), vrule r (.slice Ab r.bytes.length cb) (.slice An r.names.length cn) (.slice At r.tags.length ct) (.slice Ak r.kids.length ck)] w (.bool (kindOk ds r)) := by
 have eb := Ext_alloc (.cells #[.string r.nm, .int .i64 r.kind, .int .i64 r.size, .bool r.little, .slice Ab r.bytes.length cb, .slice An r.names.length cn, .slice At r.tags.length ct, .slice Ak r.kids.length ck] 51) (Ext_alloc (.cells #[.slice A ds.length c] 26) (Ext.refl w))
 have BX := fun w' (e : Ext ((w.alloc (.cells #[.slice A ds.length c] 26)).alloc (.cells #[.string r.nm, .int .i64 r.kind, .int .i64 r.size, .bool r.little, .slice Ab r.bytes.length cb, .slice An r.names.length cn, .slice At r.tags.length ct, .slice Ak r.kids.length ck] 51)) w') => boxed2 e
 have B0 := fun w' e => (BX w' e).1
 have B1 := fun w' e => (BX w' e).2.1
 clear BX
 have t1 : (r.kind == 1) = false := by rw [hk]; rfl
 have t2 : (r.kind == 2) = false := by rw [hk]; rfl
 have t3 : (r.kind == 3) = false := by rw [hk]; rfl
 have t4 : (r.kind == 4) = false := by rw [hk]; rfl
 have t5 : (r.kind == 5) = true := by rw [hk]; rfl
 have t6 : (r.kind == 6) = false := by rw [hk]; rfl
 have t7 : (r.kind == 7) = false := by rw [hk]; rfl
 have t8 : (r.kind == 8) = false := by rw [hk]; rfl
 have t9 : (r.kind == 9) = false := by rw [hk]; rfl
 have t10 : (r.kind == 10) = false := by rw [hk]; rfl
 have HV : Hid ((kindOk ds r) = (plainB r false false false false 2 && (decide (0 < limD ds (r.kids.getD 0 0))))) := by show _ = _; simp [kindOk, hk, Bool.and_assoc]
 rw [HV.out]
 have CP := Lib.hid (fun w => iPlain0000_c r Ab cb An cn At ct Ak ck 2 w h.lens)
 have HKL : Hid (plainB r false false false false 2 = true → r.kids.length = 2) := plainB_kids (k := 2)
 have HPP : Hid ((plainB r false false false false 2) = true → plainB r false false false false 2 = true) := fun hq => hq
 have HKK := Lib.hid (fun hq => HKL.out (HPP.out hq)); clear HKL HPP
 generalize (plainB r false false false false 2) = p at *
 clear HV hk
 have h1 := h.k
 unfold vrule vdesc at *
 cases p
 ·go_enter Tryz.func80, Tryz.ntmps80
  go_wp2_with fail
  refine wp_region_quiet_below (by kernel_rfl) (by kernel_rfl) ?_
  repeat (go_big_quiet_step ((go_at_call 88; exact Calls.regrown_of (CP.out _))))
  refine wpQuiet_nil ?_
  rintro w1 ⟨⟨nq, osq⟩, hq⟩
  have ew1 := ext_of_q hq
  clear hq nq osq
  go_wp2
  go_ret
  exact ⟨ret_bool (by simp), eb.trans ew1⟩
 have hk0 : 0 < r.kids.length := by have := HKK.out rfl; omega
 obtain ⟨bk, ok, rfl, hbk, hck⟩ := h1.at 0 hk0
 have HG : Hid (r.kids.getD 0 0 = r.kids[0]) := by show _ = _; simp [List.getD_eq_getElem?_getD, List.getElem?_eq_getElem hk0]
 rw [HG.out]
 rw [Nat.add_zero] at hck
 generalize r.kids[0] = kid at *
 have CL := Lib.hid (fun w h => iLimit_c A ds c kid w h)
 unfold vdesc at CL
 generalize limD ds kid = lim at *
 have hck' := fun w' (e : Ext _ w') => hck w' (eb.trans e)
 clear hck h1 h HG HKK
 have hbe := Ext_drew (Ext.refl ((w.alloc (.cells #[.slice A ds.length c] 26)).alloc (.cells #[.string r.nm, .int .i64 r.kind, .int .i64 r.size, .bool r.little, .slice Ab r.bytes.length cb, .slice An r.names.length cn, .slice At r.tags.length ct, .slice (some ⟨bk, ok, none⟩) r.kids.length ck] 51)))
 go_enter Tryz.func80, Tryz.ntmps80
 go_wp2_with fail
 refine wp_region_quiet_below (by kernel_rfl) (by kernel_rfl) ?_
 repeat (go_big_quiet_step ((first | (go_at_call 88; exact Calls.regrown_of (CP.out _)) | (go_at_call 89; exact Calls.regrown_of (CL.out _ (hd.ext (eb.trans (by first | assumption | exact Ext_self _ | exact Ext_drew (Ext_self _) | exact Ext_regrown _ _ (Ext_self _)))))))))
 refine wpQuiet_nil ?_
 rintro w1 ⟨⟨nq, osq⟩, hq⟩
 have ew1 := ext_of_q hq
 clear hq nq osq
 go_wp2
 go_ret
 exact ⟨ret_bool (by simp), eb.trans ew1⟩
theorem iKind6_c (A : Option Addr) (ds : List DRule) (c : Nat) (r : DRule) (Ab : Option Addr) (cb : Nat) (An : Option Addr) (cn : Nat) (At : Option Addr) (ct : Nat) (Ak : Option Addr) (ck : Nat) (w : World) (hd : RdD w A ds c) (h : RdS w r Ab cb An cn At ct Ak ck) (hs : ShortR r) (hw : WfR r) (hk : r.kind = 6) :
 Gives Tryz.prog 80 #[vdesc (.slice A ds.length c), vrule r (.slice Ab r.bytes.length cb) (.slice An r.names.length cn) (.slice At r.tags.length ct) (.slice Ak r.kids.length ck)] w (.bool (kindOk ds r)) := by
 have eb := Ext_alloc (.cells #[.string r.nm, .int .i64 r.kind, .int .i64 r.size, .bool r.little, .slice Ab r.bytes.length cb, .slice An r.names.length cn, .slice At r.tags.length ct, .slice Ak r.kids.length ck] 51) (Ext_alloc (.cells #[.slice A ds.length c] 26) (Ext.refl w))
 have BX := fun w' (e : Ext ((w.alloc (.cells #[.slice A ds.length c] 26)).alloc (.cells #[.string r.nm, .int .i64 r.kind, .int .i64 r.size, .bool r.little, .slice Ab r.bytes.length cb, .slice An r.names.length cn, .slice At r.tags.length ct, .slice Ak r.kids.length ck] 51)) w') => boxed2 e
 have B0 := fun w' e => (BX w' e).1
 have B1 := fun w' e => (BX w' e).2.1
 clear BX
 have t1 : (r.kind == 1) = false := by rw [hk]; rfl
 have t2 : (r.kind == 2) = false := by rw [hk]; rfl
 have t3 : (r.kind == 3) = false := by rw [hk]; rfl
 have t4 : (r.kind == 4) = false := by rw [hk]; rfl
 have t5 : (r.kind == 5) = false := by rw [hk]; rfl
 have t6 : (r.kind == 6) = true := by rw [hk]; rfl
 have t7 : (r.kind == 7) = false := by rw [hk]; rfl
 have t8 : (r.kind == 8) = false := by rw [hk]; rfl
 have t9 : (r.kind == 9) = false := by rw [hk]; rfl
 have t10 : (r.kind == 10) = false := by rw [hk]; rfl
 have HV : Hid (kindOk ds r = seqOk r) := by show _ = _; simp [kindOk, hk]
 rw [HV.out]
 have C := Lib.hid (fun w h => iSeq_c r Ab cb An cn At ct Ak ck w h hw)
 generalize seqOk r = q at *
 clear HV hk
 unfold vrule vdesc at *
 go_enter Tryz.func80, Tryz.ntmps80
 go_wp2_with fail
 refine (C.out _ (h.ext eb)).mono ?_; rintro _ w1 ⟨rfl, he1⟩
 go_wp2
 go_ret
 exact ⟨rfl, eb.trans he1⟩
theorem iKind7_c (A : Option Addr) (ds : List DRule) (c : Nat) (r : DRule) (Ab : Option Addr) (cb : Nat) (An : Option Addr) (cn : Nat) (At : Option Addr) (ct : Nat) (Ak : Option Addr) (ck : Nat) (w : World) (hd : RdD w A ds c) (h : RdS w r Ab cb An cn At ct Ak ck) (hs : ShortR r) (hw : WfR r) (hk : r.kind = 7) :
 Gives Tryz.prog 80 #[vdesc (.slice A ds.length c), vrule r (.slice Ab r.bytes.length cb) (.slice An r.names.length cn) (.slice At r.tags.length ct) (.slice Ak r.kids.length ck)] w (.bool (kindOk ds r)) := by
 have eb := Ext_alloc (.cells #[.string r.nm, .int .i64 r.kind, .int .i64 r.size, .bool r.little, .slice Ab r.bytes.length cb, .slice An r.names.length cn, .slice At r.tags.length ct, .slice Ak r.kids.length ck] 51) (Ext_alloc (.cells #[.slice A ds.length c] 26) (Ext.refl w))
 have BX := fun w' (e : Ext ((w.alloc (.cells #[.slice A ds.length c] 26)).alloc (.cells #[.string r.nm, .int .i64 r.kind, .int .i64 r.size, .bool r.little, .slice Ab r.bytes.length cb, .slice An r.names.length cn, .slice At r.tags.length ct, .slice Ak r.kids.length ck] 51)) w') => boxed2 e
 have B0 := fun w' e => (BX w' e).1
 have B1 := fun w' e => (BX w' e).2.1
 clear BX
 have t1 : (r.kind == 1) = false := by rw [hk]; rfl
 have t2 : (r.kind == 2) = false := by rw [hk]; rfl
 have t3 : (r.kind == 3) = false := by rw [hk]; rfl
 have t4 : (r.kind == 4) = false := by rw [hk]; rfl
 have t5 : (r.kind == 5) = false := by rw [hk]; rfl
 have t6 : (r.kind == 6) = false := by rw [hk]; rfl
 have t7 : (r.kind == 7) = true := by rw [hk]; rfl
 have t8 : (r.kind == 8) = false := by rw [hk]; rfl
 have t9 : (r.kind == 9) = false := by rw [hk]; rfl
 have t10 : (r.kind == 10) = false := by rw [hk]; rfl
 have HV : Hid (kindOk ds r = choOk ds r) := by show _ = _; simp [kindOk, hk]
 rw [HV.out]
 have C := Lib.hid (fun w hd h => iChoice_c A ds c r Ab cb An cn At ct Ak ck w hd h hs)
 generalize choOk ds r = q at *
 clear HV hk
 unfold vrule vdesc at *
 go_enter Tryz.func80, Tryz.ntmps80
 go_wp2_with fail
 refine (C.out _ (hd.ext eb) (h.ext eb)).mono ?_; rintro _ w1 ⟨rfl, he1⟩
 go_wp2
 go_ret
 exact ⟨rfl, eb.trans he1⟩
theorem iKind8_c (A : Option Addr) (ds : List DRule) (c : Nat) (r : DRule) (Ab : Option Addr) (cb : Nat) (An : Option Addr) (cn : Nat) (At : Option Addr) (ct : Nat) (Ak : Option Addr) (ck : Nat) (w : World) (hd : RdD w A ds c) (h : RdS w r Ab cb An cn At ct Ak ck) (hs : ShortR r) (hw : WfR r) (hk : r.kind = 8) :
 Gives Tryz.prog 80 #[vdesc (.slice A ds.length c), vrule r (.slice Ab r.bytes.length cb) (.slice An r.names.length cn) (.slice At r.tags.length ct) (.slice Ak r.kids.length ck)] w (.bool (kindOk ds r)) := by
 have eb := Ext_alloc (.cells #[.string r.nm, .int .i64 r.kind, .int .i64 r.size, .bool r.little, .slice Ab r.bytes.length cb, .slice An r.names.length cn, .slice At r.tags.length ct, .slice Ak r.kids.length ck] 51) (Ext_alloc (.cells #[.slice A ds.length c] 26) (Ext.refl w))
 have BX := fun w' (e : Ext ((w.alloc (.cells #[.slice A ds.length c] 26)).alloc (.cells #[.string r.nm, .int .i64 r.kind, .int .i64 r.size, .bool r.little, .slice Ab r.bytes.length cb, .slice An r.names.length cn, .slice At r.tags.length ct, .slice Ak r.kids.length ck] 51)) w') => boxed2 e
 have B0 := fun w' e => (BX w' e).1
 have B1 := fun w' e => (BX w' e).2.1
 clear BX
 have t1 : (r.kind == 1) = false := by rw [hk]; rfl
 have t2 : (r.kind == 2) = false := by rw [hk]; rfl
 have t3 : (r.kind == 3) = false := by rw [hk]; rfl
 have t4 : (r.kind == 4) = false := by rw [hk]; rfl
 have t5 : (r.kind == 5) = false := by rw [hk]; rfl
 have t6 : (r.kind == 6) = false := by rw [hk]; rfl
 have t7 : (r.kind == 7) = false := by rw [hk]; rfl
 have t8 : (r.kind == 8) = true := by rw [hk]; rfl
 have t9 : (r.kind == 9) = false := by rw [hk]; rfl
 have t10 : (r.kind == 10) = false := by rw [hk]; rfl
 have HV : Hid ((kindOk ds r) = (plainB r false false false false 1)) := by show _ = _; simp [kindOk, hk]
 rw [HV.out]
 have CP := Lib.hid (fun w => iPlain0000_c r Ab cb An cn At ct Ak ck 1 w h.lens)
 generalize (plainB r false false false false 1) = p at *
 clear HV hk
 unfold vrule vdesc at *
 go_enter Tryz.func80, Tryz.ntmps80
 go_wp2_with fail
 refine (CP.out _).mono ?_; rintro _ w1 ⟨rfl, he1⟩
 go_wp2
 go_ret
 exact ⟨rfl, eb.trans he1⟩
theorem iKind9_c (A : Option Addr) (ds : List DRule) (c : Nat) (r : DRule) (Ab : Option Addr) (cb : Nat) (An : Option Addr) (cn : Nat) (At : Option Addr) (ct : Nat) (Ak : Option Addr) (ck : Nat) (w : World) (hd : RdD w A ds c) (h : RdS w r Ab cb An cn At ct Ak ck) (hs : ShortR r) (hw : WfR r) (hk : r.kind = 9) :
 Gives Tryz.prog 80 #[vdesc (.slice A ds.length c), vrule r (.slice Ab r.bytes.length cb) (.slice An r.names.length cn) (.slice At r.tags.length ct) (.slice Ak r.kids.length ck)] w (.bool (kindOk ds r)) := by
 have eb := Ext_alloc (.cells #[.string r.nm, .int .i64 r.kind, .int .i64 r.size, .bool r.little, .slice Ab r.bytes.length cb, .slice An r.names.length cn, .slice At r.tags.length ct, .slice Ak r.kids.length ck] 51) (Ext_alloc (.cells #[.slice A ds.length c] 26) (Ext.refl w))
 have BX := fun w' (e : Ext ((w.alloc (.cells #[.slice A ds.length c] 26)).alloc (.cells #[.string r.nm, .int .i64 r.kind, .int .i64 r.size, .bool r.little, .slice Ab r.bytes.length cb, .slice An r.names.length cn, .slice At r.tags.length ct, .slice Ak r.kids.length ck] 51)) w') => boxed2 e
 have B0 := fun w' e => (BX w' e).1
 have B1 := fun w' e => (BX w' e).2.1
 clear BX
 have t1 : (r.kind == 1) = false := by rw [hk]; rfl
 have t2 : (r.kind == 2) = false := by rw [hk]; rfl
 have t3 : (r.kind == 3) = false := by rw [hk]; rfl
 have t4 : (r.kind == 4) = false := by rw [hk]; rfl
 have t5 : (r.kind == 5) = false := by rw [hk]; rfl
 have t6 : (r.kind == 6) = false := by rw [hk]; rfl
 have t7 : (r.kind == 7) = false := by rw [hk]; rfl
 have t8 : (r.kind == 8) = false := by rw [hk]; rfl
 have t9 : (r.kind == 9) = true := by rw [hk]; rfl
 have t10 : (r.kind == 10) = false := by rw [hk]; rfl
 have HV : Hid ((kindOk ds r) = (plainB r false false false false 1)) := by show _ = _; simp [kindOk, hk]
 rw [HV.out]
 have CP := Lib.hid (fun w => iPlain0000_c r Ab cb An cn At ct Ak ck 1 w h.lens)
 generalize (plainB r false false false false 1) = p at *
 clear HV hk
 unfold vrule vdesc at *
 go_enter Tryz.func80, Tryz.ntmps80
 go_wp2_with fail
 refine (CP.out _).mono ?_; rintro _ w1 ⟨rfl, he1⟩
 go_wp2
 go_ret
 exact ⟨rfl, eb.trans he1⟩
theorem iKind10_c (A : Option Addr) (ds : List DRule) (c : Nat) (r : DRule) (Ab : Option Addr) (cb : Nat) (An : Option Addr) (cn : Nat) (At : Option Addr) (ct : Nat) (Ak : Option Addr) (ck : Nat) (w : World) (hd : RdD w A ds c) (h : RdS w r Ab cb An cn At ct Ak ck) (hs : ShortR r) (hw : WfR r) (hk : r.kind = 10) :
 Gives Tryz.prog 80 #[vdesc (.slice A ds.length c), vrule r (.slice Ab r.bytes.length cb) (.slice An r.names.length cn) (.slice At r.tags.length ct) (.slice Ak r.kids.length ck)] w (.bool (kindOk ds r)) := by
 have eb := Ext_alloc (.cells #[.string r.nm, .int .i64 r.kind, .int .i64 r.size, .bool r.little, .slice Ab r.bytes.length cb, .slice An r.names.length cn, .slice At r.tags.length ct, .slice Ak r.kids.length ck] 51) (Ext_alloc (.cells #[.slice A ds.length c] 26) (Ext.refl w))
 have BX := fun w' (e : Ext ((w.alloc (.cells #[.slice A ds.length c] 26)).alloc (.cells #[.string r.nm, .int .i64 r.kind, .int .i64 r.size, .bool r.little, .slice Ab r.bytes.length cb, .slice An r.names.length cn, .slice At r.tags.length ct, .slice Ak r.kids.length ck] 51)) w') => boxed2 e
 have B0 := fun w' e => (BX w' e).1
 have B1 := fun w' e => (BX w' e).2.1
 clear BX
 have t1 : (r.kind == 1) = false := by rw [hk]; rfl
 have t2 : (r.kind == 2) = false := by rw [hk]; rfl
 have t3 : (r.kind == 3) = false := by rw [hk]; rfl
 have t4 : (r.kind == 4) = false := by rw [hk]; rfl
 have t5 : (r.kind == 5) = false := by rw [hk]; rfl
 have t6 : (r.kind == 6) = false := by rw [hk]; rfl
 have t7 : (r.kind == 7) = false := by rw [hk]; rfl
 have t8 : (r.kind == 8) = false := by rw [hk]; rfl
 have t9 : (r.kind == 9) = false := by rw [hk]; rfl
 have t10 : (r.kind == 10) = true := by rw [hk]; rfl
 have HV : Hid ((kindOk ds r) = (plainB r false true false false 0 && (r.bytes.length == 1 && !(r.bytes.getD 0 0 == 92)))) := by show _ = _; simp [kindOk, hk, Bool.and_assoc]
 rw [HV.out]
 have CP := Lib.hid (fun w => iPlain0100_c r Ab cb An cn At ct Ak ck 0 w h.lens)
 generalize (plainB r false true false false 0) = p at *
 clear HV hk
 have h1 := h.b
 have hlb := h1.len
 unfold vrule vdesc at *
 cases p
 ·go_enter Tryz.func80, Tryz.ntmps80
  go_wp2_with fail
  refine (CP.out _).mono ?_; rintro _ w1 ⟨rfl, he1⟩
  go_wp2
  go_ret
  exact ⟨ret_bool (by simp), eb.trans he1⟩
 by_cases hl : r.bytes.length = 1
 ·have hk0 : 0 < r.bytes.length := by omega
  obtain ⟨bb, ob, rfl, hbb, hcb⟩ := h1.at 0 hk0
  have HG : Hid (r.bytes.getD 0 0 = r.bytes[0]) := by show _ = _; simp [List.getD_eq_getElem?_getD, List.getElem?_eq_getElem hk0]
  rw [HG.out]
  rw [Nat.add_zero] at hcb
  generalize r.bytes[0] = x at *
  have hck' := fun w' (e : Ext _ w') => hcb w' (eb.trans e)
  have l1 : ((r.bytes.length : Int) == 1) = true := by simp [hl]
  have HL : Hid ((r.bytes.length == 1) = true) := by show _ = _; simp [hl]
  rw [HL.out]
  have HX : Hid ((!(x == 92)) = ((x.toNat : Int) != 92)) := by
   show _ = _
   rw [bne]; congr 1
   rw [Bool.eq_iff_iff]; simp only [beq_iff_eq]
   constructor
   ·rintro rfl; rfl
   ·intro hx; exact u8_inj (by simpa using hx)
  rw [HX.out]
  clear hcb h1 h HG hl HL HX
  go_enter Tryz.func80, Tryz.ntmps80
  go_wp2_with fail
  refine (CP.out _).mono ?_; rintro _ w1 ⟨rfl, he1⟩
  go_wp2
  go_ret
  exact ⟨ret_bool (by simp), eb.trans he1⟩
 ·have l1 : ((r.bytes.length : Int) == 1) = false := by simp; omega
  have HL : Hid ((r.bytes.length == 1) = false) := by show _ = _; simpa using hl
  rw [HL.out]
  clear hl HL
  go_enter Tryz.func80, Tryz.ntmps80
  go_wp2_with fail
  refine (CP.out _).mono ?_; rintro _ w1 ⟨rfl, he1⟩
  go_wp2
  go_ret
  exact ⟨ret_bool (by simp), eb.trans he1⟩
theorem iKindX_c (A : Option Addr) (ds : List DRule) (c : Nat) (r : DRule) (Ab : Option Addr) (cb : Nat) (An : Option Addr) (cn : Nat) (At : Option Addr) (ct : Nat) (Ak : Option Addr) (ck : Nat) (w : World) (hd : RdD w A ds c) (h : RdS w r Ab cb An cn At ct Ak ck) (hs : ShortR r) (hw : WfR r) (hk : r.kind < 1 ∨ 10 < r.kind) :
 Gives Tryz.prog 80 #[vdesc (.slice A ds.length c), vrule r (.slice Ab r.bytes.length cb) (.slice An r.names.length cn) (.slice At r.tags.length ct) (.slice Ak r.kids.length ck)] w (.bool (kindOk ds r)) := by
 have eb := Ext_alloc (.cells #[.string r.nm, .int .i64 r.kind, .int .i64 r.size, .bool r.little, .slice Ab r.bytes.length cb, .slice An r.names.length cn, .slice At r.tags.length ct, .slice Ak r.kids.length ck] 51) (Ext_alloc (.cells #[.slice A ds.length c] 26) (Ext.refl w))
 have BX := fun w' (e : Ext ((w.alloc (.cells #[.slice A ds.length c] 26)).alloc (.cells #[.string r.nm, .int .i64 r.kind, .int .i64 r.size, .bool r.little, .slice Ab r.bytes.length cb, .slice An r.names.length cn, .slice At r.tags.length ct, .slice Ak r.kids.length ck] 51)) w') => boxed2 e
 have B0 := fun w' e => (BX w' e).1
 have B1 := fun w' e => (BX w' e).2.1
 clear BX
 have t1 : (r.kind == 1) = false := by simp; omega
 have t2 : (r.kind == 2) = false := by simp; omega
 have t3 : (r.kind == 3) = false := by simp; omega
 have t4 : (r.kind == 4) = false := by simp; omega
 have t5 : (r.kind == 5) = false := by simp; omega
 have t6 : (r.kind == 6) = false := by simp; omega
 have t7 : (r.kind == 7) = false := by simp; omega
 have t8 : (r.kind == 8) = false := by simp; omega
 have t9 : (r.kind == 9) = false := by simp; omega
 have t10 : (r.kind == 10) = false := by simp; omega
 have HV : Hid ((kindOk ds r) = false) := by
  show _ = _; unfold kindOk
  rw [if_neg (by omega), if_neg (by omega), if_neg (by omega), if_neg (by omega), if_neg (by omega), if_neg (by omega), if_neg (by omega), if_neg (by omega), if_neg (by omega), if_neg (by omega)]
 rw [HV.out]
 clear HV hk
 unfold vrule vdesc at *
 go_enter Tryz.func80, Tryz.ntmps80
 go_wp2
 go_ret
 exact ⟨rfl, eb⟩
end Go.Proofs.YtpmcofmdjckijaaGreatDoor
