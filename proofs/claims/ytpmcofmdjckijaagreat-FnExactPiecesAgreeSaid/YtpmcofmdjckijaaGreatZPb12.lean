/- Texts, laid into one. -/
import Derived.Test.YtpmcofmdjckijaaGreatZPb10
import Derived.Lib.AppendStr
import Derived.Lib.ConvBytes
import Derived.Laws.CopyOwn
import Derived.Laws.BitsAllLaws
import Derived.StillTailTactics
set_option linter.unusedVariables false
set_option linter.unusedSimpArgs false
set_option maxRecDepth 100000
set_option maxHeartbeats 16000000
namespace Go.Proofs.YtpmcofmdjckijaaGreat
open Go.RowKit Go.Sort
structure Mach where
 pc : Int
 reg : Int
 stack : List Int
 sums : List Int
 left : Int
 started : Bool
 escaped : Bool
 state : Int
 code : Int
 read : Int
def mcells (m : Mach) (vs vq : Value) : Array Value := #[.int .i64 m.pc, .int .i64 m.reg, vs, vq, .int .i64 m.left, .bool m.started, .bool m.escaped, .int .i64 m.state, .int .i64 m.code, .int .i64 m.read]
structure MR (X : Nat → Prop) (w w' : World) : Prop where
 os : w'.os = w.os
 tape : w'.tape = w.tape
 output : w'.output = w.output
 size : w.heap.size ≤ w'.heap.size
 kept : ∀ k, X k → w'.heap[k]? = w.heap[k]?
theorem MR.refl (X : Nat → Prop) (w : World) : MR X w w := ⟨rfl, rfl, rfl, Nat.le_refl _, fun _ _ => rfl⟩
theorem MR.trans {X : Nat → Prop} {a b c : World} (h : MR X a b) (k : MR X b c) : MR X a c := ⟨k.os.trans h.os, k.tape.trans h.tape, k.output.trans h.output, Nat.le_trans h.size k.size, fun i hi => (k.kept i hi).trans (h.kept i hi)⟩
theorem MR.of_ext {X : Nat → Prop} {w w' : World} (e : Ext w w') (hX : ∀ k, X k → k < w.heap.size) : MR X w w' := ⟨e.os, e.tape, e.output, e.size, fun k hk => Below.block e k (hX k hk)⟩
theorem MR.to_ext {w w' : World} (h : MR (· < w.heap.size) w w') : Ext w w' := ⟨h.os, h.tape, h.output, h.size, fun k hk => h.kept k hk⟩
theorem MR.set {X : Nat → Prop} {w : World} {p i : Nat} (u : Value) (h : ¬ X p) : MR X w (w.setCell ⟨p, i, none⟩ u) :=
 ⟨rfl, rfl, rfl, by simp, fun k hk => heap_setCell_other w ⟨p, i, none⟩ k u (fun hh => h (by have : k = p := hh; rwa [this] at hk))⟩
theorem MR.weak {X Y : Nat → Prop} {w w' : World} (h : MR X w w') (hY : ∀ k, Y k → X k) : MR Y w w' := ⟨h.os, h.tape, h.output, h.size, fun k hk => h.kept k (hY k hk)⟩
theorem MR.grown {X : Nat → Prop} {w w' : World} {r : Option Nat} (hg : w.grownBy w' r) (hr : ∀ b, r = some b → ¬ X b) (hX : ∀ k, X k → k < w.heap.size) : MR X w w' :=
 ⟨hg.os, hg.tape, hg.output, hg.size, fun k hk => hg.block k (hX k hk) (fun hh => hr k hh.symm hk)⟩
structure MB (X : Nat → Prop) (W0 w : World) (p : Nat) (m : Mach) (vs vq : Value) : Prop where
 lo : W0.heap.size ≤ p
 box : Box w p (mcells m vs vq) 67
 os : OwnL vint 3 W0 w vs m.stack
 oq : OwnL vint 3 W0 w vq m.sums
 n1 : vs.ownBlock ≠ some p
 n2 : vq.ownBlock ≠ some p
 far : ∀ b, vs.ownBlock = some b → vq.ownBlock ≠ some b
 xp : ¬ X p
 xs : ∀ b, vs.ownBlock = some b → ¬ X b
 xq : ∀ b, vq.ownBlock = some b → ¬ X b
 low : ∀ k, X k → k < w.heap.size
 ext : Ext W0 w
def MV (X : Nat → Prop) (W0 w : World) (p : Nat) (m : Mach) : Prop := ∃ vs vq, MB X W0 w p m vs vq
theorem MB.next {X : Nat → Prop} {W0 w w' : World} {p : Nat} {m : Mach} {vs vq : Value} (h : MB X W0 w p m vs vq) (e : Ext w w') : MB X W0 w' p m vs vq :=
 ⟨h.lo, h.box.ext e, h.os.ext e, h.oq.ext e, h.n1, h.n2, h.far, h.xp, h.xs, h.xq, fun k hk => Nat.lt_of_lt_of_le (h.low k hk) e.size, h.ext.trans e⟩
theorem MB.put {X : Nat → Prop} {W0 w : World} {p : Nat} {m m' : Mach} {vs vq : Value} (h : MB X W0 w p m vs vq) (i : Nat) (u : Value) (hc : (mcells m vs vq).setIfInBounds i u = mcells m' vs vq) (h1 : m'.stack = m.stack) (h2 : m'.sums = m.sums) :
 MB X W0 (w.setCell ⟨p, i, none⟩ u) p m' vs vq :=
 ⟨h.lo, by have := h.box.set i u; rwa [hc] at this, by rw [h1]; exact h.os.other _ _ h.n1, by rw [h2]; exact h.oq.other _ _ h.n2, h.n1, h.n2, h.far, h.xp, h.xs, h.xq, fun k hk => by simpa using h.low k hk, h.ext.setCell (p := ⟨p, i, none⟩) h.lo u⟩
theorem MB.putS {X : Nat → Prop} {W0 w w' : World} {p : Nat} {m m' : Mach} {vs vq v' : Value} (h : MB X W0 w p m vs vq) (ho : OwnL vint 3 W0 w' v' m'.stack) (he : Ext W0 w') (hv : v'.ownBlock = vs.ownBlock ∨ v'.ownBlock = some w.heap.size) (hg : w.grownBy w' vs.ownBlock)
 (hc : mcells m' v' vq = (mcells m vs vq).setIfInBounds 2 v') (h2 : m'.sums = m.sums) : MB X W0 (w'.setCell ⟨p, 2, none⟩ v') p m' v' vq := by
 have hl := h.box.lt
 have n1' : v'.ownBlock ≠ some p := by
  rcases hv with hv | hv
  ·rw [hv]; exact h.n1
  ·rw [hv]; intro hh; injection hh with hh; omega
 refine ⟨h.lo, ?_, ho.other _ _ n1', ?_, n1', h.n2, ?_, h.xp, ?_, h.xq, fun k hk => by have := h.low k hk; have := hg.size; simp; omega, he.setCell (p := ⟨p, 2, none⟩) h.lo v'⟩
 ·have := (h.box.moved hg h.n1).set 2 v'; rwa [← hc] at this
 ·rw [h2]; exact (h.oq.keep hg (fun b hb hr => h.far b hr hb)).other _ _ h.n2
 ·intro b hb
  rcases hv with hv | hv
  ·exact h.far b (hv ▸ hb)
  ·rw [hv] at hb; injection hb with hb; subst hb
   intro hh; have := (World.ownsRow.lt h.oq _ hh).2; omega
 ·intro b hb
  rcases hv with hv | hv
  ·exact h.xs b (hv ▸ hb)
  ·rw [hv] at hb; injection hb with hb; subst hb
   intro hh; have := h.low _ hh; omega
theorem MB.putQ {X : Nat → Prop} {W0 w w' : World} {p : Nat} {m m' : Mach} {vs vq v' : Value} (h : MB X W0 w p m vs vq) (ho : OwnL vint 3 W0 w' v' m'.sums) (he : Ext W0 w') (hv : v'.ownBlock = vq.ownBlock ∨ v'.ownBlock = some w.heap.size) (hg : w.grownBy w' vq.ownBlock)
 (hc : mcells m' vs v' = (mcells m vs vq).setIfInBounds 3 v') (h2 : m'.stack = m.stack) : MB X W0 (w'.setCell ⟨p, 3, none⟩ v') p m' vs v' := by
 have hl := h.box.lt
 have n2' : v'.ownBlock ≠ some p := by
  rcases hv with hv | hv
  ·rw [hv]; exact h.n2
  ·rw [hv]; intro hh; injection hh with hh; omega
 refine ⟨h.lo, ?_, ?_, ho.other _ _ n2', h.n1, n2', ?_, h.xp, h.xs, ?_, fun k hk => by have := h.low k hk; have := hg.size; simp; omega, he.setCell (p := ⟨p, 3, none⟩) h.lo v'⟩
 ·have := (h.box.moved hg h.n2).set 3 v'; rwa [← hc] at this
 ·rw [h2]; exact (h.os.keep hg (fun b hb hr => h.far b hb hr)).other _ _ h.n1
 ·intro b hb
  rcases hv with hv | hv
  ·rw [hv]; exact h.far b hb
  ·rw [hv]; intro hh; injection hh with hh; subst hh
   have := (World.ownsRow.lt h.os _ hb).2; omega
 ·intro b hb
  rcases hv with hv | hv
  ·exact h.xq b (hv ▸ hb)
  ·rw [hv] at hb; injection hb with hb; subst hb
   intro hh; have := h.low _ hh; omega
theorem OwnL.pop {w0 w : World} {A : Option Addr} {n c : Nat} {l : List Int} (h : OwnL vint 3 w0 w (.slice A n c) l) (hp : 0 < l.length) : OwnL vint 3 w0 w (.slice A (n - 1) c) l.dropLast := by
 have h1 := h.1
 rcases h.2 with ⟨hv, h0⟩ | ⟨g, cap, cur, hv, hb, hg, hnc, hcm, hcs, htake⟩
 ·omega
 ·injection hv with i1 i2 i3
  subst i1; subst i2; subst i3
  refine ⟨by simp, .inr ⟨g, _, cur, by rw [List.length_dropLast], hb, hg, by rw [List.length_dropLast]; omega, hcm, hcs, ?_⟩⟩
  rw [List.length_dropLast, Nat.mul_one]
  rw [Nat.mul_one] at htake
  rw [List.dropLast_eq_take, List.map_take, ← htake, List.take_take]
  congr 1; omega
section
variable {P : Program} {ops : Array Oper} {Q : Exit → Act → World → Prop} {md : Region.Mode} {C : Nat → World → Prop} {S : World → Prop}
def wpAnyC (P : Program) (md : Region.Mode) (ops : Array Oper) (Q : Exit → Act → World → Prop) (C : Nat → World → Prop) : Nat → Array Bool → Act → World → Prop
 | 0, listed, a, w => Region.ready md ops listed = [] ∧ Q .normal a w
 | fuel + 1, listed, a, w =>
  (Region.ready md ops listed = [] → Q .normal a w) ∧
  ∀ i ∈ Region.ready md ops listed, wpOp P ops Q i (fun a' w' => C i w' ∧ wpAnyC P md ops Q C fuel (listed.setIfInBounds i true) a' w') a w
theorem wpAny_of_C : ∀ (fuel : Nat) (listed : Array Bool) (a : Act) (w : World), wpAnyC P md ops Q C fuel listed a w → wpAny P md ops Q fuel listed a w
 | 0, _, _, _, h => h
 | fuel + 1, _, _, _, h => ⟨h.1, fun i hi => wpOp_mono (fun a' w' h' => wpAny_of_C fuel _ a' w' h'.2) (h.2 i hi)⟩
def depOn (md : Region.Mode) (ops : Array Oper) : Nat → Nat → Nat → Bool
 | 0, _, _ => false
 | n + 1, j, i => match ops[j]? with
  | some o => o.after.any (fun e => Region.binds md e && e.on == i) || o.after.any (fun e => Region.binds md e && depOn md ops n e.on i)
  | none => false
def Down (md : Region.Mode) (ops : Array Oper) (listed : Array Bool) : Prop := ∀ k o, ops[k]? = some o → listed.getD k false = true → ∀ e ∈ o.after, Region.binds md e = true → listed.getD e.on false = true
theorem dep_listed {listed : Array Bool} (hd : Down md ops listed) {i : Nat} : ∀ (n j : Nat) (o : Oper), ops[j]? = some o → (∀ e ∈ o.after, Region.binds md e = true → listed.getD e.on false = true) → depOn md ops n j i = true → listed.getD i false = true := by
 intro n
 induction n with
 | zero => intro j o _ _ h; cases h
 | succ n ih =>
  intro j o ho hall h
  unfold depOn at h
  rw [ho] at h
  simp only [Bool.or_eq_true, Array.any_eq_true, Bool.and_eq_true, beq_iff_eq] at h
  rcases h with ⟨k, hk, hb, he⟩ | ⟨k, hk, hb, he⟩
  ·rw [← he]; exact hall _ (Array.getElem_mem hk) hb
  ·have h1 := hall _ (Array.getElem_mem hk) hb
   cases h2 : ops[o.after[k].on]? with
   | none => cases n with
    | zero => cases he
    | succ n => unfold depOn at he; rw [h2] at he; cases he
   | some o2 => exact ih _ o2 h2 (hd _ o2 h2 h1) he
theorem getD_false_of {listed : Array Bool} {i : Nat} (h : listed.getD i true = false) : listed.getD i false = false := by
 rcases Nat.lt_or_ge i listed.size with h' | h'
 ·simp [h'] at h ⊢; exact h
 ·simp [h'] at h
theorem Down.set {listed : Array Bool} (hd : Down md ops listed) {j : Nat} (hj : j ∈ Region.ready md ops listed) : Down md ops (listed.setIfInBounds j true) := by
 intro k o ho hk e he hb
 obtain ⟨_, oj, hoj, hall⟩ := mem_ready.1 hj
 by_cases hkj : j = k
 ·subst hkj
  rw [hoj] at ho; injection ho with ho; subst ho
  exact getD_set_true (hall e he hb)
 ·rw [getD_set_ne false hkj] at hk
  exact getD_set_true (hd k o ho hk e he hb)
theorem wpAnyC_first {i : Nat} {oi : Oper} {v : Value} (hi : ops[i]? = some oi) (hsel : ∀ (j : Nat) (o : Oper) cs b, ops[j]? = some o → o.op ≠ .select cs b)
 (hQ : ∀ c a w, Q (.panic c) (a.put oi.dst v) w → Q (.panic c) a w) (n : Nat) (hCi : ∀ w', S w' → C i w') :
 ∀ (fuel : Nat) (listed : Array Bool) (a : Act) (w : World), Down md ops listed →
  (∀ j oj, ops[j]? = some oj → j ≠ i → listed.getD j true = false → (∀ e ∈ oj.after, Region.binds md e = true → e.on ≠ i) → oi.apart ops oj = true) →
  (∀ j oj, ops[j]? = some oj → listed.getD j true = false → j ≠ i → depOn md ops n j i = false → ∀ w', C j w' → S w') →
  i ∈ Region.ready md ops listed → YieldsIf P ops S oi v a → S w →
  wpAnyC P md ops Q C fuel (listed.setIfInBounds i true) (a.put oi.dst v) w → wpAnyC P md ops Q C (fuel + 1) listed a w := by
 intro fuel
 induction fuel with
 | zero =>
  intro listed a w _ _ _ hr hy hS H
  refine ⟨fun h => (by rw [h] at hr; cases hr), fun j hj => ?_⟩
  by_cases hji : j = i
  ·subst hji; exact hy.wpOp hi hS ⟨hCi w hS, H⟩
  ·have := ready_mono hj hji
   rw [H.1] at this
   cases this
 | succ fuel ih =>
  intro listed a w hd hfree hC hr hy hS H
  refine ⟨fun h => (by rw [h] at hr; cases hr), fun j hj => ?_⟩
  by_cases hji : j = i
  ·subst hji; exact hy.wpOp hi hS ⟨hCi w hS, H⟩
  ·have h1 := H.2 j (ready_mono hj hji)
   obtain ⟨hjun, oj, hoj, hall⟩ := mem_ready.1 hj
   have hiun := getD_false_of (mem_ready.1 hr).1
   have hnot : ∀ e ∈ oj.after, Region.binds md e = true → e.on ≠ i := fun e he hb heq => by
    have h1 := hall e he hb
    rw [heq, hiun] at h1; cases h1
   have hnd : depOn md ops n j i = false := by
    rw [Bool.eq_false_iff]
    intro hh
    have := dep_listed hd n j oj hoj hall hh
    rw [hiun] at this; cases this
   have h2 := wpOp_putIf hoj (hfree j oj hoj hji hjun hnot) (fun cs b => hsel i oi cs b hi) (fun cs b => hsel j oj cs b hoj) hQ hy h1
   have hfree' : ∀ k ok, ops[k]? = some ok → k ≠ i → (listed.setIfInBounds j true).getD k true = false →
    (∀ e ∈ ok.after, Region.binds md e = true → e.on ≠ i) → oi.apart ops ok = true := fun k ok hk hki hun hno => by
    refine hfree k ok hk hki ?_ hno
    by_cases hjk : j = k
    ·subst hjk; exact hjun
    ·rw [getD_set_ne true hjk] at hun; exact hun
   have hC' : ∀ k ok, ops[k]? = some ok → (listed.setIfInBounds j true).getD k true = false → k ≠ i → depOn md ops n k i = false → ∀ w', C k w' → S w' := fun k ok hk hun hki hno => by
    refine hC k ok hk ?_ hki hno
    by_cases hjk : j = k
    ·subst hjk; exact hjun
    ·rw [getD_set_ne true hjk] at hun; exact hun
   refine wpOp_mono (fun a' w' h3 => ⟨h3.2.1, ih (listed.setIfInBounds j true) a' w' (hd.set hj) hfree' hC' (ready_mono hr (Ne.symm hji)) h3.1 (hC j oj hoj hjun hji hnd w' h3.2.1) ?_⟩) h2
   rw [Array.setIfInBounds_comm _ _ hji]
   exact h3.2.2
def downB (md : Region.Mode) (ops : Array Oper) (listed : Array Bool) : Bool := (List.range ops.size).all fun k => !listed.getD k false || ((ops[k]?).map fun o => o.after.all fun e => !Region.binds md e || listed.getD e.on false).getD true
theorem downB_spec {listed : Array Bool} (h : downB md ops listed = true) : Down md ops listed := by
 intro k o ho hk e he hb
 have hlt : k < ops.size := (Array.getElem?_eq_some_iff.1 ho).1
 have h1 := List.all_eq_true.1 h k (List.mem_range.2 hlt)
 rw [hk, ho] at h1
 simp only [Bool.not_true, Bool.false_or, Option.map_some, Option.getD_some, Array.all_eq_true_iff_forall_mem] at h1
 have h2 := h1 e he
 rw [hb] at h2
 simpa using h2
def takeB (md : Region.Mode) (ops : Array Oper) (listed : Array Bool) (c : List Nat) (i t : Nat) : Bool :=
 decide (c.getD i 0 ≤ t) && (List.range ops.size).all fun j => listed.getD j true || j == i || depOn md ops 12 j i || decide (t ≤ c.getD j 0)
theorem wpAnyC_take {Lv : Nat → World → Prop} {c : List Nat} (t : Nat) {i : Nat} {oi : Oper} {v : Value} {fuel : Nat} {listed : Array Bool} {a : Act} {w : World} (hmono : ∀ a b w, a ≤ b → Lv b w → Lv a w) (hi : ops[i]? = some oi)
 (hs : Region.noSelect ops = true) (hf : Region.free md ops listed i = true) (hr : (Region.ready md ops listed).contains i = true) (hd : downB md ops listed = true) (ht : takeB md ops listed c i t = true)
 (hQ : ∀ c a w, Q (.panic c) (a.put oi.dst v) w → Q (.panic c) a w) (hS : Lv t w) (hy : YieldsIf P ops (Lv t) oi v a)
 (h : wpAnyC P md ops Q (fun j => Lv (c.getD j 0)) fuel (listed.setIfInBounds i true) (a.put oi.dst v) w) : wpAnyC P md ops Q (fun j => Lv (c.getD j 0)) (fuel + 1) listed a w := by
 unfold takeB at ht
 rw [Bool.and_eq_true, decide_eq_true_eq] at ht
 refine wpAnyC_first (S := Lv t) (C := fun j => Lv (c.getD j 0)) hi (Region.noSelect_spec hs) hQ 12 (fun w' h' => hmono _ _ w' ht.1 h') fuel listed a w (downB_spec hd) (Region.free_spec hi hf) (fun j oj hoj hj hji hdj w' hc => ?_) (by simpa using hr) hy hS h
 have hlt : j < ops.size := (Array.getElem?_eq_some_iff.1 hoj).1
 have h1 := List.all_eq_true.1 ht.2 j (List.mem_range.2 hlt)
 rw [hj, hdj] at h1
 simp only [Bool.false_or, Bool.or_false, Bool.or_eq_true, beq_iff_eq, decide_eq_true_eq] at h1
 rcases h1 with h1 | h1
 ·exact absurd h1 hji
 ·exact hmono _ _ w' h1 hc
theorem wpAnyC_one {i : Nat} {o : Oper} {fuel : Nat} {listed : Array Bool} {a : Act} {w : World} (hr : Region.ready md ops listed = [i]) (ho : ops[i]? = some o)
 (h : ∀ K : Act → World → Prop, Shut (∀ a w, C i w → wpAnyC P md ops Q C fuel (listed.setIfInBounds i true) a w → K a w) → if Region.wanted o (yielded ops a.tmps) = true then Oper.wp P o a w K Q else K (a.put o.dst undef) w) : wpAnyC P md ops Q C (fuel + 1) listed a w := by
 refine ⟨fun h0 => (by rw [hr] at h0; cases h0), fun j hj => ?_⟩
 rw [hr, List.mem_singleton] at hj
 subst hj
 exact wpOp_step ho (fun K' hK => h K' (fun a w hC hW => hK a w ⟨hC, hW⟩))
theorem wpAnyC_done {listed : Array Bool} {a : Act} {w : World} (hr : Region.ready md ops listed = []) (h : Q .normal a w) : ∀ fuel, wpAnyC P md ops Q C fuel listed a w
 | 0 => ⟨hr, h⟩
 | _ + 1 => ⟨fun _ => h, by rw [hr]; simp⟩
theorem wp_region_C {id : Nat} {a : Act} {w : World} (hm : P.follows .mixedOrders = true)
 (h : wpAnyC P .any ops Q C ops.size (Array.replicate ops.size false) a w.drew) : (Code.region id ops true).wp P Q a w :=
 wp_region_any hm (wpAny_of_C _ _ _ _ h)
end
def lv2 (A B : World → Prop) : Nat → World → Prop
 | 0, _ => True
 | 1, w => A w
 | _ + 2, w => A w ∧ B w
theorem lv2_mono (A B : World → Prop) : ∀ a b w, a ≤ b → lv2 A B b w → lv2 A B a w
 | 0, _, _, _, _ => trivial
 | 1, 1, _, _, h => h
 | 1, _ + 2, _, _, h => h.1
 | _ + 2, _ + 2, _, _, h => h
theorem tkC {P : Program} {ops : Array Oper} {Q : Exit → Act → World → Prop} {md : Region.Mode} {A B : World → Prop} {c : List Nat} (t : Nat) {i : Nat} {oi : Oper} {v : Value} {fuel : Nat} {listed : Array Bool} {a : Act} {w : World}
 (hi : ops[i]? = some oi) (hb : (Region.noSelect ops && Region.free md ops listed i && (Region.ready md ops listed).contains i && downB md ops listed && takeB md ops listed c i t) = true) (hS : lv2 A B t w) (hy : YieldsIf P ops (lv2 A B t) oi v a)
 (h : wpAnyC P md ops Q (fun j => lv2 A B (c.getD j 0)) fuel (listed.setIfInBounds i true) (a.put oi.dst v) w) (hQ : ∀ c a w, Q (.panic c) (a.put oi.dst v) w → Q (.panic c) a w := by exact fun _ _ _ h => h) :
 wpAnyC P md ops Q (fun j => lv2 A B (c.getD j 0)) (fuel + 1) listed a w := by
 simp only [Bool.and_eq_true] at hb
 exact wpAnyC_take t (lv2_mono A B) hi hb.1.1.1.1 hb.1.1.1.2 hb.1.1.2 hb.1.2 hb.2 hQ hS hy h
def sumB : List UInt8 → Nat
 | [] => 0
 | x :: t => x.toNat + sumB t
end Go.Proofs.YtpmcofmdjckijaaGreat
namespace Go.Proofs.YtpmcofmdjckijaaGreat
def litF (l : List UInt8) (a : Nat) : Nat → Nat → Nat
 | 0, k => k
 | f + 1, k => if k < l.length ∧ k - a < 127 ∧ runAt l k < 3 then litF l a f (k + 1) else k
def litEnd (l : List UInt8) (a k : Nat) : Nat := litF l a (l.length - k) k
def packF (l : List UInt8) : Nat → Nat → List UInt8
 | 0, _ => []
 | f + 1, a =>
  if h : a < l.length then
   if 3 ≤ runAt l a then UInt8.ofNat (128 + min (runAt l a) 127) :: l[a] :: packF l f (a + min (runAt l a) 127)
   else UInt8.ofNat (litEnd l a a - a) :: ((l.drop a).take (litEnd l a a - a) ++ packF l f (litEnd l a a))
  else []
def packAt (l : List UInt8) (a : Nat) : List UInt8 := packF l l.length a
def pack (l : List UInt8) : List UInt8 := packAt l 0
def unpackF : Nat → List UInt8 → List UInt8 → Option (List UInt8)
 | _, [], out => some out
 | 0, _ :: _, _ => none
 | f + 1, x :: t, out =>
  if x = 0 ∨ x = 128 ∨ t = [] then none
  else if x < 128 then
   if t.length < x.toNat then none
   else if 1000 < (out ++ t.take x.toNat).length then none
   else unpackF f (t.drop x.toNat) (out ++ t.take x.toNat)
  else
   if 1000 < (out ++ List.replicate (x.toNat - 128) (t.headD 0)).length then none
   else unpackF f t.tail (out ++ List.replicate (x.toNat - 128) (t.headD 0))
def unpack (l : List UInt8) : Option (List UInt8) := unpackF l.length l []
def unpackAt (l : List UInt8) (a : Nat) (out : List UInt8) : Option (List UInt8) := unpackF l.length (l.drop a) out
end Go.Proofs.YtpmcofmdjckijaaGreat
namespace Go.Proofs.YtpmcofmdjckijaaGreat
open Go.RowKit Go.Sort
def vrec (k : Int) (nm : ByteArray) (ver : Int) (v : Value) : Value := .agg #[.int .i64 k, .string nm, .int .i64 ver, v]
def szR (n m : Nat) (left : Int) : Int := if szN n left < 0 then -1 else szN m (szN n left)
def validRec (k : Int) (nm : ByteArray) (ver : Int) (n : Nat) : Bool :=
 isName nm && (decide (0 ≤ ver) && decide (ver ≤ 7)) && decide (n ≤ 400) && (k == 1 || (k == 2 && ver == 0 && (n : Int) == 0))
end Go.Proofs.YtpmcofmdjckijaaGreat
namespace Go.Proofs.YtpmcofmdjckijaaGreat
def be2 (n : Nat) : List UInt8 := [UInt8.ofNat (n / 256), UInt8.ofNat n]
def encBody (k : Int) (nm : ByteArray) (ver : Int) (l : List UInt8) : List UInt8 :=
 [UInt8.ofNat k.toNat, UInt8.ofNat nm.size] ++ nm.data.toList ++ [UInt8.ofNat ver.toNat] ++ be2 (pack l).length ++ pack l
def encRec (k : Int) (nm : ByteArray) (ver : Int) (l : List UInt8) : List UInt8 :=
 if validRec k nm ver l.length then encBody k nm ver l ++ [UInt8.ofNat (sumB (encBody k nm ver l))] else []
structure DRec where
 k : Int
 nm : ByteArray
 ver : Int
 l : List UInt8
def DRec.zero : DRec := ⟨0, ⟨#[]⟩, 0, []⟩
def DRec.enc (r : DRec) : List UInt8 := encRec r.k r.nm r.ver r.l
def DRec.ok (r : DRec) : Bool := validRec r.k r.nm r.ver r.l.length
def nmAt (b : List UInt8) (a : Nat) : Nat := (b.getD (a+1) 0).toNat
def szAt (b : List UInt8) (a : Nat) : Nat := 256 * (b.getD (a + nmAt b a + 3) 0).toNat + (b.getD (a + nmAt b a + 4) 0).toNat
def recAt (b : List UInt8) (a : Nat) (d : List UInt8) : DRec :=
 ⟨(b.getD a 0).toNat, ⟨((b.drop (a+2)).take (nmAt b a)).toArray⟩, (b.getD (a + nmAt b a + 2) 0).toNat, d⟩
def decN (b : List UInt8) (a : Nat) : Option DRec :=
 if b.length < a + 2 ∨ b.length < a + nmAt b a + 6 ∨ b.length < a + nmAt b a + 6 + szAt b a then none
 else match unpack ((b.drop (a + nmAt b a + 5)).take (szAt b a)) with
  | none => none
  | some d => if (recAt b a d).ok && ((recAt b a d).enc == (b.drop a).take (nmAt b a + 6 + szAt b a)) then some (recAt b a d) else none
def dec (b : List UInt8) (a : Int) : Option DRec := if a < 0 then none else decN b a.toNat
def decEnd (b : List UInt8) (a : Int) : Int := if (dec b a).isSome then a + nmAt b a.toNat + 6 + szAt b a.toNat else a
theorem decN_some {b : List UInt8} {a : Nat} {r : DRec} (h : decN b a = some r) : a + nmAt b a + 6 + szAt b a ≤ b.length ∧ r.ok = true ∧ r.enc = (b.drop a).take (nmAt b a + 6 + szAt b a) ∧ unpack ((b.drop (a + nmAt b a + 5)).take (szAt b a)) = some r.l ∧ r = recAt b a r.l := by
 unfold decN at h
 split at h
 ·cases h
 ·rename_i hc
  split at h
  ·cases h
  ·rename_i d hd
   split at h
   ·rename_i hb
    injection h with h
    subst h
    rw [Bool.and_eq_true, beq_iff_eq] at hb
    exact ⟨by omega, hb.1, hb.2, hd, rfl⟩
   ·cases h
end Go.Proofs.YtpmcofmdjckijaaGreat
namespace Go.Proofs.YtpmcofmdjckijaaGreat
open Go.RowKit Go.Sort
section
variable {P : Program} {ops : Array Oper} {rest : List Oper} {o : Oper} {a : Act} {Q : Exit → Act → World → Prop}
end
theorem Rd.src {α : Type} {f : α → Value} {w w' : World} {A : Option Addr} {l : List α} {c : Nat} (h : Rd f w A l c) (e : Ext w w') :
 0 < l.length → ∃ ad, A = some ad ∧ ∀ j u, (l.map f)[j]? = some u → w'.cell? (ad.add j) = some u := by
 intro hp
 obtain ⟨b, off, h1, _, h3⟩ := h.base hp
 refine ⟨_, h1, fun j u hu => ?_⟩
 have := part_cells (h3 w' e) 0 l.length j u (by simpa using hu)
 simpa using this
theorem OwnL.lower {α : Type} {f : α → Value} {e : TypeId} {w0 w1 w : World} {v : Value} {l : List α} (h : OwnL f e w1 w v l) (k : Ext w0 w1) : OwnL f e w0 w v l := World.ownsRow.lower h k.size
def DecOut (r : Option DRec) (j : Int) (w : World) (e : Ending) (w' : World) : Prop :=
 ∃ v, e = .returned (.tuple #[vrec (r.getD .zero).k (r.getD .zero).nm (r.getD .zero).ver v, .int .i64 j, .bool r.isSome]) ∧ OwnL vu8 5 w w' v (r.getD .zero).l ∧ Ext w w'
theorem DecOut.no {j : Int} {w w' : World} (he : Ext w w') : DecOut none j w (.returned (.tuple #[.agg #[.int .i64 0, .string ⟨#[]⟩, .int .i64 0, .slice none 0 0], .int .i64 j, .bool false])) w' := ⟨_, rfl, OwnL.nil _ _, he⟩
section
variable {P : Program} {ops : Array Oper} {rest : List Oper} {o : Oper} {a : Act} {Q : Exit → Act → World → Prop}
end
def beN (l : List UInt8) : Nat := l.foldl (fun n x => 256 * n + x.toNat) 0
end Go.Proofs.YtpmcofmdjckijaaGreat
namespace Go.Proofs.YtpmcofmdjckijaaGreat
def sizeAt (b : List UInt8) (a : Nat) : Nat := nmAt b a + 6 + szAt b a
def readF : Nat → List UInt8 → Nat → List DRec × Nat
 | 0, _, a => ([], a)
 | f + 1, b, a => match decN b a with
  | none => ([], a)
  | some r => (r :: (readF f b (a + sizeAt b a)).1, (readF f b (a + sizeAt b a)).2)
theorem decN_out {b : List UInt8} {a : Nat} (h : b.length < a + 6) : decN b a = none := by
 cases hd : decN b a with
 | none => rfl
 | some r => have := (decN_some hd).1; omega
theorem decN_fits {b : List UInt8} {a : Nat} {r : DRec} (h : decN b a = some r) : a + sizeAt b a ≤ b.length ∧ 6 ≤ sizeAt b a := by
 have := (decN_some h).1; unfold sizeAt; omega
theorem readF_fuel (b : List UInt8) : ∀ f g a, b.length - a ≤ f → b.length - a ≤ g → readF f b a = readF g b a := by
 intro f
 induction f with
 | zero =>
  intro g a h _
  cases g with
  | zero => rfl
  | succ g => rw [readF, readF, decN_out (by omega)]
 | succ f ih =>
  intro g a h1 h2
  cases g with
  | zero => rw [readF, readF, decN_out (by omega)]
  | succ g =>
   rw [readF, readF]
   cases hd : decN b a with
   | none => rfl
   | some r =>
    have := decN_fits hd
    simp only
    rw [ih g (a + sizeAt b a) (by omega) (by omega)]
def recs (b : List UInt8) (a : Nat) : List DRec := (readF b.length b a).1
def stop (b : List UInt8) (a : Nat) : Nat := (readF b.length b a).2
theorem read_none {b : List UInt8} {a : Nat} (h : decN b a = none) : recs b a = [] ∧ stop b a = a := by
 unfold recs stop
 cases b.length with
 | zero => exact ⟨rfl, rfl⟩
 | succ n => rw [readF, h]; exact ⟨rfl, rfl⟩
theorem read_some {b : List UInt8} {a : Nat} {r : DRec} (h : decN b a = some r) : recs b a = r :: recs b (a + sizeAt b a) ∧ stop b a = stop b (a + sizeAt b a) := by
 have hf := decN_fits h
 unfold recs stop
 rw [readF_fuel b b.length (b.length + 1) a (by omega) (by omega), readF, h]
 exact ⟨rfl, rfl⟩
theorem take_drop_take {α : Type} (b : List α) {s k m : Nat} (h : k + m ≤ s) : ((b.take s).drop k).take m = (b.drop k).take m := by
 rw [List.drop_take, List.take_take, Nat.min_eq_left (by omega)]
theorem getD_take {b : List UInt8} {s i : Nat} (h : i < s) : (b.take s).getD i 0 = b.getD i 0 := by
 simp [List.getD, List.getElem?_take, h]
theorem nmAt_take {b : List UInt8} {s a : Nat} (h : a + 1 < s) : nmAt (b.take s) a = nmAt b a := by unfold nmAt; rw [getD_take h]
theorem szAt_take {b : List UInt8} {s a : Nat} (h : a + nmAt b a + 4 < s) : szAt (b.take s) a = szAt b a := by
 unfold szAt; rw [nmAt_take (by omega), getD_take (by omega), getD_take (by omega)]
theorem decN_take_eq {b : List UInt8} {s a : Nat} (hs : s ≤ b.length) (h : a + sizeAt b a ≤ s) : decN (b.take s) a = decN b a := by
 unfold sizeAt at h
 have hl : (b.take s).length = s := by rw [List.length_take]; omega
 have e1 : nmAt (b.take s) a = nmAt b a := nmAt_take (by omega)
 have e2 : szAt (b.take s) a = szAt b a := szAt_take (by omega)
 have e3 : ∀ d, recAt (b.take s) a d = recAt b a d := by
  intro d; unfold recAt
  rw [e1, getD_take (by omega), getD_take (by omega), take_drop_take b (by omega)]
 unfold decN
 rw [e1, e2, hl, if_neg (by omega), if_neg (by omega), take_drop_take b (by omega), take_drop_take b (by omega)]
 simp only [e3]
theorem decN_take_some {b : List UInt8} {s a : Nat} {r : DRec} (hs : s ≤ b.length) (h : decN (b.take s) a = some r) : decN b a = some r ∧ a + sizeAt b a ≤ s := by
 have hf := (decN_some h).1
 have hl : (b.take s).length = s := by rw [List.length_take]; omega
 rw [hl] at hf
 have e1 : nmAt (b.take s) a = nmAt b a := nmAt_take (by omega)
 rw [e1] at hf
 have e2 : szAt (b.take s) a = szAt b a := szAt_take (by omega)
 rw [e2] at hf
 have hz : a + sizeAt b a ≤ s := by unfold sizeAt; omega
 exact ⟨(decN_take_eq hs hz).symm.trans h, hz⟩
theorem decN_take_none {b : List UInt8} {s a : Nat} (hs : s ≤ b.length) (h : decN b a = none ∨ s < a + sizeAt b a) : decN (b.take s) a = none := by
 cases hd : decN (b.take s) a with
 | none => rfl
 | some r =>
  obtain ⟨h1, h2⟩ := decN_take_some hs hd
  rcases h with h | h
  ·rw [h] at h1; cases h1
  ·omega
def validLog (b : List UInt8) (s : Int) : Bool := decide (0 ≤ s) && decide (s ≤ b.length) && (stop b 0 == b.length) && (stop (b.take s.toNat) 0 == s.toNat)
def endsAt (b : List UInt8) (s : Nat) : Bool := stop (b.take s) 0 == s
def Scan (b : List UInt8) (s a : Nat) (e : Bool) : Prop :=
 (e = true ∧ endsAt b s = true) ∨ (e = false ∧ a < s ∧ stop (b.take s) a = stop (b.take s) 0) ∨ (e = false ∧ s < a ∧ endsAt b s = false)
theorem Scan.start (b : List UInt8) (s : Nat) : Scan b s 0 (s == 0) := by
 by_cases h : s = 0
 ·subst h
  refine .inl ⟨rfl, ?_⟩
  unfold endsAt
  rw [List.take_zero, (read_none (decN_out (by simp))).2]; rfl
 ·exact .inr (.inl ⟨by simpa using h, by omega, rfl⟩)
theorem Scan.step {b : List UInt8} {s a : Nat} {e : Bool} {r : DRec} (hs : s ≤ b.length) (hd : decN b a = some r) (h : Scan b s a e) : Scan b s (a + sizeAt b a) (e || (a + sizeAt b a == s)) := by
 have hf := decN_fits hd
 rcases h with ⟨rfl, h⟩ | ⟨rfl, h1, h2⟩ | ⟨rfl, h1, h2⟩
 ·exact .inl ⟨rfl, h⟩
 ·by_cases hle : a + sizeAt b a ≤ s
  ·have hd' := (decN_take_eq hs hle).trans hd
   have hz : sizeAt (b.take s) a = sizeAt b a := by
    unfold sizeAt at hle ⊢
    rw [nmAt_take (by omega), szAt_take (by omega)]
   have h3 := (read_some hd').2
   rw [hz] at h3
   by_cases he : a + sizeAt b a = s
   ·rw [he]
    refine .inl ⟨by simp, ?_⟩
    unfold endsAt
    rw [← h2, h3, he, (read_none (decN_out (by rw [List.length_take]; omega))).2]
    simp
   ·exact .inr (.inl ⟨by simpa using he, by omega, by rw [← h3]; exact h2⟩)
  ·refine .inr (.inr ⟨by simp; omega, by omega, ?_⟩)
   unfold endsAt
   rw [← h2, (read_none (decN_take_none hs (.inr (by omega)))).2]
   simp; omega
 ·exact .inr (.inr ⟨by simp; omega, by omega, h2⟩)
theorem Scan.done {b : List UInt8} {s : Nat} {e : Bool} (hs : s ≤ b.length) (h : Scan b s b.length e) : e = endsAt b s := by
 rcases h with ⟨rfl, h⟩ | ⟨rfl, h1, _⟩ | ⟨rfl, _, h⟩
 ·exact h.symm
 ·omega
 ·exact h.symm
end Go.Proofs.YtpmcofmdjckijaaGreat
namespace Go.Proofs.YtpmcofmdjckijaaGreat
open Go.RowKit Go.Sort
theorem OwnL.ne {α : Type} {f : α → Value} {e : TypeId} {w0 w : World} {v : Value} {l : List α} (h : OwnL f e w0 w v l) {g : Nat} (hg : w.heap.size ≤ g) : some g ≠ v.ownBlock := by
 intro he; have := (World.ownsRow.lt h g he.symm).2; omega
def rcells (p : DRec × Value) : List Value := [.int .i64 p.1.k, .string p.1.nm, .int .i64 p.1.ver, p.2]
def Apart (vs : List Value) : Prop := vs.Pairwise fun a b => ∀ g, a.ownBlock = some g → b.ownBlock ≠ some g
section
variable {P : Program} {ops : Array Oper} {rest : List Oper} {o : Oper} {a : Act} {Q : Exit → Act → World → Prop}
end
theorem Rd.take {α : Type} {f : α → Value} {w : World} {A : Option Addr} {l : List α} {c : Nat} (h : Rd f w A l c) (n : Nat) : Rd f w A (l.take n) c := by
 have hn : (l.take n).length ≤ l.length := by simp; omega
 refine ⟨⟨by have := h.cap; omega, by have := h.1.2.1; omega, fun hp => ?_⟩, by have := h.len; omega⟩
 obtain ⟨b, off, h1, h2, h3⟩ := h.base (by omega)
 refine ⟨b, off, h1, h2, fun w' e i hi => ?_⟩
 rw [h3 w' e i (by omega)]
 simp
theorem Rd.none {α : Type} {f : α → Value} {l : List α} (hl : l.length = 0) (w : World) (A : Option Addr) (c : Nat) : Rd f w A l c := ⟨⟨by omega, by omega, fun h => by omega⟩, by omega⟩
end Go.Proofs.YtpmcofmdjckijaaGreat
