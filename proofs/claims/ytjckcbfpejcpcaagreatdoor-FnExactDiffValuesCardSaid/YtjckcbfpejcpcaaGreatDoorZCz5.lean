/- Changes: rows of them that a call made. -/
import Derived.Test.YtjckcbfpejcpcaaGreatDoorZCz4
import Derived.Maps.OwnOps
import Derived.Maps.OwnSet
import Derived.Maps.Views
import Derived.DeepKeys4
import Derived.OrdersHeld
import Derived.Deep.RegionHeld3
set_option linter.unusedVariables false
set_option linter.unusedSimpArgs false
namespace Go.Proofs.YtjckcbfpejcpcaaGreatDoor
open Go.RowKit Go.Sort

section
variable {P : Program} {ops : Array Oper} {rest : List Oper} {o : Oper} {a : Act} {Q : Exit → Act → World → Prop}
/-- append(s, x1, .., xm), with what becomes of the block -/
theorem wpList_appE (hgd : o.guard = none) (s x : Operand) (t : TypeId) (ho : o.op = .call { callee := .builtin .append, args := #[s, x], argTypes := #[t, t] })
    {e : TypeId} {size bytes : Nat} {z : Value} (hE : Elem P t e size bytes z) (w0 w : World) (v : Value) (n : Nat) (xs : List Value) (hs : a.eval s = v) (hown : Own e size w0 w v n xs)
    (he : Ext w0 w) (news : List Value) (cs : Array Value) (hcs : cs = news.toArray) (m c g : Nat) (hx : a.eval x = .slice (some ⟨g, 0, none⟩) m c) (hgw : g = w.heap.size) (hl : news.length = m * size) (h1 : ∀ u ∈ news, u.oneCell' = true)
    (hm : n + m ≤ maxLen) (hb : (n + m) * bytes ≤ 140737488355328)
    (h : ∀ v' w', Own e size w0 w' v' (n + m) (xs ++ news) → Ext w0 w' → (v'.ownBlock = v.ownBlock ∨ v'.ownBlock = some (w.alloc (.cells cs e)).heap.size) → (w.alloc (.cells cs e)).grownBy w' v.ownBlock → wpList P ops Q rest (a.put o.dst v') w') :
    wpList P ops Q (o :: rest) a (w.alloc (.cells cs e)) := by
  subst hcs; subst hgw
  refine wpList_app_any hgd s x t ho hE w0 _ v n xs hs (World.ownsRow.alloc hown _) (Ext_alloc _ he) news (some ⟨w.heap.size, 0, none⟩) m c hx hl (fun _ => ⟨_, rfl, fun j u hj => ?_⟩) h1 hm hb h
  rw [World.cell?_alloc_at']; exact hj
end

section
variable {P : Program} {ops : Array Oper} {o : Oper} {a : Act} {Q : Exit → Act → World → Prop} {K : Act → World → Prop} {E : Prop}
/-- append(s, ys...) of elements of any size in a region that draws -/
theorem step_appAny (hgd : o.guard = none) (s x : Operand) (t : TypeId) (ho : o.op = .call { callee := .builtin .append, args := #[s, x], argTypes := #[t, t] })
    {e : TypeId} {size bytes : Nat} {z : Value} (hE : Elem P t e size bytes z) (w0 w : World) (v : Value) (n : Nat) (xs : List Value) (hs : a.eval s = v) (hown : Own e size w0 w v n xs)
    (he : Ext w0 w) (news : List Value) (A : Option Addr) (m c : Nat) (hx : a.eval x = .slice A m c) (hl : news.length = m * size)
    (hA : 0 < m → ∃ ad, A = some ad ∧ ∀ j u, news[j]? = some u → w.cell? (ad.add j) = some u) (h1 : ∀ u ∈ news, u.oneCell' = true)
    (hm : n + m ≤ maxLen) (hb : (n + m) * bytes ≤ 140737488355328)
    (h : ∀ v' w', Own e size w0 w' v' (n + m) (xs ++ news) → Ext w0 w' → (v'.ownBlock = v.ownBlock ∨ v'.ownBlock = some w.heap.size) → w.grownBy w' v.ownBlock → K (a.put o.dst v') w') :
    if Region.wanted o (yielded ops a.tmps) = true then Oper.wp P o a w K Q else E := by
  have hw : Region.wanted o (yielded ops a.tmps) = true := by simp [Region.wanted, hgd]
  rw [if_pos hw]
  obtain ⟨i0, hi0, hz0, hz1, hz2⟩ := info_parts hE.hi
  rcases A with _ | ad
  · have hm0 : m = 0 := by
      rcases Nat.eq_zero_or_pos m with h0 | h0
      · exact h0
      · obtain ⟨ad, h, _⟩ := hA h0
        cases h
    subst hm0
    obtain rfl : news = [] := List.eq_nil_of_length_eq_zero (by simpa using hl)
    unfold Oper.wp execOp
    simp only [ho, resolve, invoke, builtin, Sem.run_bind, Sem.run_pure, Result.andThen_ok, List.map_toArray, List.map_cons, List.map_nil, hs, hx, run_app_nil w w0.heap.size t o.type e i0 size hE.ht hi0 v n xs hown c]
    exact h v w (by simpa using hown) he (.inl rfl) (World.grownBy.refl w _)
  · obtain ⟨v', w', hr, h2, h3, h4, h5⟩ := run_append_own_at (P := P) w w0.heap.size t o.type e i0 z size bytes hE.ht hi0 hz0 hz1 hz2 hE.hz hE.hs v n xs hown ad m c news hl
      (fun j u hu => by
        rcases Nat.eq_zero_or_pos m with h0 | h0
        · subst h0
          obtain rfl : news = [] := List.eq_nil_of_length_eq_zero (by simpa using hl)
          simp at hu
        · obtain ⟨ad', h', hc⟩ := hA h0
          injection h' with h'
          subst h'
          exact hc j u hu)
      h1 hm hb he.size
    unfold Oper.wp execOp
    simp only [ho, resolve, invoke, builtin, Sem.run_bind, Sem.run_pure, Result.andThen_ok, List.map_toArray, List.map_cons, List.map_nil, hs, hx, hr]
    exact h v' w' h2 (he.grown h3 (fun k hk => (hown.lt k hk).1)) h5 h3
end
theorem E_chg : Elem Tryz.prog 31 58 4 72 (.agg #[.string ⟨#[]⟩, .int .i64 0, .slice none 0 0, .slice none 0 0]) := ⟨Tryz.underlying31, by kernel_rfl, rfl, by omega⟩
/-- a change: its path, its part as a call made it -/
abbrev CT := ByteArray × VT
def ccells (c : CT) : List Value := .string c.1 :: c.2.cells
def chOf (cs : List CT) : List (ByteArray × DVal) := cs.map fun c => (c.1, c.2.val)
def cvals (cs : List CT) : List Value := cs.flatMap fun c => c.2.vals
structure OwnC (w0 w : World) (v : Value) (cs : List CT) : Prop where
  row : Own 58 4 w0 w v cs.length (cs.flatMap ccells)
  each : ∀ c ∈ cs, OwnT w0 w c.2
  far : Far (v :: cvals cs)
theorem chOf_append (a b : List CT) : chOf (a ++ b) = chOf a ++ chOf b := by simp [chOf]
theorem chOf_len (a : List CT) : (chOf a).length = a.length := by simp [chOf]
theorem cvals_append (a b : List CT) : cvals (a ++ b) = cvals a ++ cvals b := by simp [cvals]
theorem mem_cvals {cs : List CT} {c : CT} (hc : c ∈ cs) {u : Value} (hu : u ∈ c.2.vals) : u ∈ cvals cs := List.mem_flatMap.2 ⟨c, hc, hu⟩
theorem ccells_len (ps : List CT) : (ps.flatMap ccells).length = ps.length * 4 := by
  induction ps with
  | nil => rfl
  | cons p t ih => rw [List.flatMap_cons, List.length_append, ih, List.length_cons]; simp [ccells, VT.cells]; omega
theorem OwnC.nil {w0 w : World} {v : Value} (h : Own 58 4 w0 w v 0 []) : OwnC w0 w v [] := ⟨h, (fun c hc => by cases hc), Far.one _⟩
theorem OwnC.ext {w0 w w' : World} {v : Value} {cs : List CT} (h : OwnC w0 w v cs) (e : Ext w w') : OwnC w0 w' v cs := ⟨h.row.ext e, fun p hp => (h.each p hp).ext e, h.far⟩
theorem OwnC.down {w0 w1 w : World} {v : Value} {cs : List CT} (h : OwnC w1 w v cs) (e : w0.heap.size ≤ w1.heap.size) : OwnC w0 w v cs := ⟨World.ownsRow.lower h.row e, fun p hp => (h.each p hp).down e, h.far⟩
theorem OwnC.shape {w0 w : World} {v : Value} {cs : List CT} (h : OwnC w0 w v cs) : ∃ A c, v = .slice A cs.length c := h.row.shape
theorem OwnC.block {w0 w : World} {v : Value} {cs : List CT} (h : OwnC w0 w v cs) : ∀ u ∈ v :: cvals cs, ∀ g, u.ownBlock = some g → w0.heap.size ≤ g ∧ g < w.heap.size := by
  intro u hu
  rcases List.mem_cons.1 hu with rfl | hu
  · exact fun g hg => World.ownsRow.lt h.row g hg
  · obtain ⟨p, hp, hu⟩ := List.mem_flatMap.1 hu
    exact (h.each p hp).block u hu
theorem OwnC.keep {w0 w w' : World} {v : Value} {cs : List CT} (h : OwnC w0 w v cs) {row : Option Nat} (hg : w.grownBy w' row) (hne : ∀ u ∈ v :: cvals cs, ∀ g, u.ownBlock = some g → row ≠ some g) : OwnC w0 w' v cs :=
  ⟨h.row.keep hg (hne _ (by simp)), fun p hp => (h.each p hp).keep hg (fun u hu => hne u (List.mem_cons_of_mem _ (mem_cvals hp hu))), h.far⟩
theorem ccells_one {w0 w : World} {cs : List CT} (h : ∀ c ∈ cs, OwnT w0 w c.2) : ∀ u ∈ cs.flatMap ccells, u.oneCell' = true := by
  intro u hu
  obtain ⟨c, hc, hu⟩ := List.mem_flatMap.1 hu
  rcases List.mem_cons.1 hu with rfl | hu
  · rfl
  · exact (h c hc).one u hu
/-- the cells of such a row -/
theorem OwnC.src {w0 w w' : World} {A : Option Addr} {c : Nat} {cs : List CT} (h : OwnC w0 w (.slice A cs.length c) cs) (e : Ext w w') : 0 < cs.length → ∃ ad, A = some ad ∧ ∀ j u, (cs.flatMap ccells)[j]? = some u → w'.cell? (ad.add j) = some u := by
  intro hp
  rcases h.row.2 with ⟨hv, h0⟩ | ⟨g, cap, cur, hv, hb, hg, hnc, hcm, hcs, htake⟩
  · omega
  · injection hv with h1 _ _
    refine ⟨_, h1, fun j u hu => ?_⟩
    have hadd : (⟨g, 0, none⟩ : Addr).add j = ⟨g, j, none⟩ := by unfold Addr.add; split <;> simp_all
    rw [hadd, heap_row hg e j, ← hu, ← htake, List.getElem?_take]
    have : j < cs.length * 4 := by
      rcases Nat.lt_or_ge j (cs.flatMap ccells).length with h' | h'
      · rwa [ccells_len] at h'
      · rw [List.getElem?_eq_none h'] at hu; cases hu
    rw [if_pos this]; simp
/-- a row to which another call's row was appended -/
theorem OwnC.join {W0 wr wb w1 w2 : World} {v v' vB : Value} {cs csB : List CT} (h : OwnC W0 wr v cs) (hB : OwnC wb w1 vB csB) (e1 : wr.heap.size ≤ wb.heap.size) (h0 : W0.heap.size ≤ wr.heap.size) (e : Ext wr w1)
    (ho : Own 58 4 W0 w2 v' (cs.length + csB.length) (cs.flatMap ccells ++ csB.flatMap ccells)) (hg : w1.grownBy w2 v.ownBlock) (hv : v'.ownBlock = v.ownBlock ∨ v'.ownBlock = some w1.heap.size) : OwnC W0 w2 v' (cs ++ csB) := by
  have hfar := h.far; have hfarB := hB.far
  unfold Far at hfar hfarB
  rw [List.pairwise_cons] at hfar hfarB
  have hbl := h.block; have hblB := hB.block
  have hvb : ∀ g, v.ownBlock = some g → g < wr.heap.size := fun g hg => (hbl v (List.mem_cons_self ..) g hg).2
  refine ⟨by rw [List.length_append, List.flatMap_append]; exact ho, fun c hc => ?_, ?_⟩
  · rcases List.mem_append.1 hc with hc | hc
    · exact ((h.each c hc).ext e).keep hg (fun u hu g hg he => hfar.1 u (mem_cvals hc hu) g he hg)
    · refine ((hB.each c hc).keep hg (fun u hu g hg he => ?_)).down (by omega)
      have h1 := (hblB u (List.mem_cons_of_mem _ (mem_cvals hc hu)) g hg).1
      have h2 := hvb g he
      omega
  · rw [cvals_append]
    have hold : ∀ u ∈ cvals cs, ∀ g, u.ownBlock = some g → g < wr.heap.size := fun u hu g hg => (hbl u (List.mem_cons_of_mem _ hu) g hg).2
    have hnew : ∀ u ∈ cvals csB, ∀ g, u.ownBlock = some g → wb.heap.size ≤ g ∧ g < w1.heap.size := fun u hu g hg => hblB u (List.mem_cons_of_mem _ hu) g hg
    have hsz := e.size
    refine Far.cons (Far.append hfar.2 hfarB.2 (fun u hu x hx g h1 h2 => by have := hold u hu g h1; have := (hnew x hx g h2).1; omega)) (fun x hx g h1 h2 => ?_)
    rcases hv with hv | hv
    · rw [hv] at h1
      rcases List.mem_append.1 hx with hx | hx
      · exact hfar.1 x hx g h1 h2
      · have := hvb g h1; have := (hnew x hx g h2).1; omega
    · rw [hv] at h1
      injection h1 with h1
      rcases List.mem_append.1 hx with hx | hx
      · have := hold x hx g h2; omega
      · have := (hnew x hx g h2).2; omega
/-- .. one change -/
theorem OwnC.snoc {W0 wr w2 w4 : World} {v v' : Value} {cs : List CT} {c : CT} (h : OwnC W0 wr v cs) (e2 : Ext wr w2) {wb : World} (hro : OwnT wb w2 c.2) (hwb : wr.heap.size ≤ wb.heap.size) (hfr : Far c.2.vals) (hb : W0.heap.size ≤ wr.heap.size) {ds : Array Value} {T : TypeId}
    (ho4 : Own 58 4 W0 w4 v' (cs.length + 1) (cs.flatMap ccells ++ ccells c)) (hg4 : (w2.alloc (.cells ds T)).grownBy w4 v.ownBlock) (hv : v'.ownBlock = v.ownBlock ∨ v'.ownBlock = some (w2.alloc (.cells ds T)).heap.size) : OwnC W0 w4 v' (cs ++ [c]) := by
  have ex := Ext_alloc (.cells ds T) (Ext.refl w2)
  have hsz : (w2.alloc (.cells ds T)).heap.size = w2.heap.size + 1 := by simp
  have hbl := h.block
  have hfar := h.far
  unfold Far at hfar
  rw [List.pairwise_cons] at hfar
  have hs2 := e2.size
  have hnew : ∀ u ∈ c.2.vals, ∀ g, u.ownBlock = some g → wb.heap.size ≤ g ∧ g < w2.heap.size := fun u hu g hg => hro.block u hu g hg
  refine ⟨by rw [List.length_append, List.flatMap_append, List.flatMap_cons, List.flatMap_nil, List.append_nil]; exact ho4, fun q hq => ?_, ?_⟩
  · rcases List.mem_append.1 hq with hq | hq
    · exact (((h.each q hq).ext e2).ext ex).keep hg4 (fun u hu g hg he => hfar.1 u (mem_cvals hq hu) g he hg)
    · obtain rfl := List.mem_singleton.1 hq
      refine ((hro.ext ex).keep hg4 (fun u hu g hg he => ?_)).down (by omega)
      have h1 := (hnew u hu g hg).1
      have h2 := (hbl v (List.mem_cons_self ..) g he).2
      omega
  · rw [cvals_append]
    have hone : cvals [c] = c.2.vals := by simp [cvals]
    rw [hone]
    have hold : ∀ u ∈ cvals cs, ∀ g, u.ownBlock = some g → g < wr.heap.size := fun u hu g hg => (hbl u (List.mem_cons_of_mem _ hu) g hg).2
    refine Far.cons (Far.append hfar.2 hfr (fun u hu x hx g h1 h2 => by have := hold u hu g h1; have := (hnew x hx g h2).1; omega)) (fun x hx g h1 h2 => ?_)
    rcases hv with hv | hv
    · rw [hv] at h1
      rcases List.mem_append.1 hx with hx | hx
      · exact hfar.1 x hx g h1 h2
      · have := (hbl v (List.mem_cons_self ..) g h1).2; have := (hnew x hx g h2).1; omega
    · rw [hv, hsz] at h1
      injection h1 with h1
      rcases List.mem_append.1 hx with hx | hx
      · have := hold x hx g h2; omega
      · have := (hnew x hx g h2).2; omega
end Go.Proofs.YtjckcbfpejcpcaaGreatDoor

/- A map of numbered changes. -/
namespace Go.Proofs.YtjckcbfpejcpcaaGreatDoor
open Go.RowKit Go.Sort
open Go.Maps (Keyed)

/-- a number as a key -/
def numV (n : Nat) : Value := .agg #[.int .i64 (n : Int)]
theorem keyOf_num {P : Program} {k e : TypeId} {f0 : Field} (hk : P.underlying k = some (.struct #[f0])) (he : P.underlying f0.type = some (.int .i64)) (hn : (f0.name != "_") = true) (ho : f0.offset = 0) (hkt : P.keyType k = true) (hc : P.cellsOf k = 1) (hce : P.cellsOf f0.type = 1)
    (hsz : 0 < P.types.size) {x : Int} (hx : (Lit.int .i64 x).wf = true) : keyOf P k (.agg #[.int .i64 x]) = some (.string (keyBytes [.int .i64 x])) := by
  have hf : (Value.agg #[.int .i64 x]).formed P k = true := by simp [Value.formed, hk, hc]
  have hcs : (Value.agg #[.int .i64 x]).cells = #[.int .i64 x] := rfl
  unfold keyOf
  simp only [hk]
  rw [if_pos (by rw [hkt, hf]; rfl), hcs]
  obtain ⟨n, hn'⟩ : ∃ n, P.types.size = n + 1 := ⟨P.types.size - 1, by omega⟩
  rw [hn']
  have h1 : P.keyLits (n + 1 + 1) k [.int .i64 x] = some [.int .i64 x] := by
    have e0 : P.keyLits (n + 1) f0.type [.int .i64 x] = some [.int .i64 x] := by unfold Program.keyLits; simp only [he]; rw [if_pos ⟨trivial, hx⟩]
    unfold Program.keyLits
    simp only [hk]
    rw [if_pos ⟨by rw [hc]; rfl, by simp [hn]⟩]
    simp [List.mapM_cons, hce, e0, ho]
  simp [h1]
theorem numKey : Keyed Tryz.prog 76 := Keyed.of_law (deep_law_laid fact_laid (m := 2) (by omega) (of_decide_eq_true (by kernel_rfl)) (by kernel_rfl) (by kernel_rfl))
theorem numKeyOf (n : Nat) (hn : n ≤ 9223372036854775807) : ∃ kl, keyOf Tryz.prog 76 (numV n) = some kl :=
  ⟨_, keyOf_num (e := 3) Tryz.underlying76 Tryz.underlying3 (by kernel_rfl) (by kernel_rfl) (by kernel_rfl) (by kernel_rfl) (by kernel_rfl) (of_decide_eq_true (by kernel_rfl)) (by
    have h1 : IntKind.i64.min = -9223372036854775808 := by rfl
    have h2 : IntKind.i64.max = 9223372036854775807 := by rfl
    show (decide (IntKind.i64.min ≤ (n : Int)) && decide ((n : Int) ≤ IntKind.i64.max)) = true
    rw [h1, h2, Bool.and_eq_true, decide_eq_true_eq, decide_eq_true_eq]
    omega)⟩
theorem numV_inj {m n : Nat} (h : numV m = numV n) : m = n := by
  unfold numV at h
  injection h with h
  simp at h
  omega
/-- an element as it is -/
def asIs (v : Value) : Option (DataW Value × List MemPlace) := some (.held v, [])
/-- block b of w is a map of the numbers 0, 1, .. to these values -/
structure NumMap (w : World) (b : Nat) (vs : List Value) : Prop where
  own : ∃ D : DataW Value, w.ownsMap Tryz.prog 76 asIs b vs.length D ∧ Maps.IsMap D ∧ Maps.size D = vs.length ∧
    ∀ (n : Nat) kl, n ≤ 9223372036854775807 → keyOf Tryz.prog 76 (numV n) = some kl → (∀ h : n < vs.length, ∀ z, D.atKey kl z = .held vs[n]) ∧ (vs.length ≤ n → Maps.has D kl = false)
theorem NumMap.lt {w : World} {b : Nat} {vs : List Value} (h : NumMap w b vs) : b < w.heap.size := by obtain ⟨D, h1, _⟩ := h.own; exact h1.lt
theorem NumMap.kept {w w' : World} {b : Nat} {vs : List Value} (h : NumMap w b vs) {row : Option Nat} (hg : w.grownBy w' row) (hne : some b ≠ row) : NumMap w' b vs := by
  obtain ⟨D, h1, h2⟩ := h.own
  exact ⟨⟨D, h1.kept hg hne, h2⟩⟩
theorem NumMap.ext {w w' : World} {b : Nat} {vs : List Value} (h : NumMap w b vs) (e : Ext w w') : NumMap w' b vs := h.kept (grown_ext e none) (by simp)
theorem NumMap.made (w : World) : NumMap (w.alloc (.map #[] 0)) w.heap.size [] :=
  ⟨⟨.map [], World.ownsMap_made w _ _ _, Maps.isMap_empty, rfl, fun n kl _ _ => ⟨fun h => by simp at h, fun _ => by simp [Maps.has_eq]⟩⟩⟩
theorem NumMap.len {w : World} {b : Nat} {vs : List Value} (h : NumMap w b vs) (ty : TypeId) : (Builtin.len_ #[70] ty #[.map (some b)]).run Tryz.prog w = .ok (.int .i64 (vs.length : Int)) w := by
  obtain ⟨D, h1, _, h3, _⟩ := h.own
  have := h1.len Tryz.underlying70 ty
  rw [h3] at this
  exact this
theorem zeroChg (w : World) : ∃ z, (zeroValue 58).run Tryz.prog w = .ok z w := ⟨.agg #[.string ⟨#[]⟩, .int .i64 0, .slice none 0 0, .slice none 0 0], by kernel_rfl⟩
theorem NumMap.look {w : World} {b : Nat} {vs : List Value} (h : NumMap w b vs) (n : Nat) (hn : n < vs.length) (hm : n ≤ 9223372036854775807) :
    (Instr.lookup 70 (.map (some b)) (numV n) false).run Tryz.prog w = .ok vs[n] w := by
  obtain ⟨D, h1, _, _, h4⟩ := h.own
  obtain ⟨kl, hkl⟩ := numKeyOf n hm
  obtain ⟨z, hz⟩ := zeroChg w
  obtain ⟨v, ps, hrun, hv⟩ := h1.lookup numKey Tryz.underlying70 hz rfl hkl
  rw [(h4 n kl hm hkl).1 hn] at hv
  unfold asIs at hv
  simp at hv
  rw [hrun, hv.1]
theorem NumMap.put {w : World} {b : Nat} {vs : List Value} (h : NumMap w b vs) (hm : vs.length < 140737488351232) (u : Value) :
    ∃ w', (Instr.mapUpdate 70 (.map (some b)) (numV vs.length) u).run Tryz.prog w = .ok () w' ∧ NumMap w' b (vs ++ [u]) ∧ w.grownBy w' (some b) := by
  obtain ⟨D, h1, h2, h3, h4⟩ := h.own
  obtain ⟨kl, hkl⟩ := numKeyOf vs.length (by omega)
  have hnot := (h4 vs.length kl (by omega) hkl).2 (Nat.le_refl _)
  obtain ⟨w', hrun, ho, hg⟩ := h1.update numKey Tryz.underlying70 (by simp only [maxLen]; omega) (val := u) hkl (d := .held u) (ps := []) rfl
  refine ⟨w', hrun, ⟨⟨_, by rw [List.length_append]; exact ho, h2.put kl _, ?_, fun n kl' hn hk' => ?_⟩⟩, hg⟩
  · rw [Maps.size_put (h1.tidy numKey), hnot, h3, List.length_append]; simp
  · by_cases hkk : kl' = kl
    · subst hkk
      have hp := numV_inj (numKey.inj hk' hkl)
      subst hp
      exact ⟨fun _ z => by rw [Maps.atKey_put_same h2 (numKey.key hkl)]; simp, fun hle => by rw [List.length_append] at hle; simp at hle; omega⟩
    · obtain ⟨g1, g2⟩ := h4 n kl' hn hk'
      have hne : n ≠ vs.length := by rintro rfl; rw [hkl] at hk'; injection hk' with hk'; exact hkk hk'.symm
      refine ⟨fun hlt z => ?_, fun hle => ?_⟩
      · rw [List.length_append] at hlt
        have hlt' : n < vs.length := by simp at hlt; omega
        rw [Maps.atKey_put_other hkk, g1 hlt', List.getElem_append_left hlt']
      · rw [List.length_append] at hle
        rw [Maps.has_put_other hkk]; exact g2 (by simp at hle; omega)
/-- a change as one value -/
def chV (c : CT) : Value := .agg #[.string c.1, .int .i64 c.2.num, c.2.vb, c.2.vi]
end Go.Proofs.YtjckcbfpejcpcaaGreatDoor

/- A region that draws its order: loads are taken first under conditions that hold only up to the operations that wait for them. -/
namespace Go.Proofs.YtjckcbfpejcpcaaGreatDoor
open Go.RowKit Go.Sort

section
variable {P : Program} {ops : Array Oper} {Q : Exit → Act → World → Prop} {md : Region.Mode} {C : Nat → World → Prop} {S : World → Prop}

/-- whatever order is picked from here on, and C i holds behind operation i -/
def wpAnyC (P : Program) (md : Region.Mode) (ops : Array Oper) (Q : Exit → Act → World → Prop) (C : Nat → World → Prop) : Nat → Array Bool → Act → World → Prop
  | 0, listed, a, w => Region.ready md ops listed = [] ∧ Q .normal a w
  | fuel + 1, listed, a, w =>
    (Region.ready md ops listed = [] → Q .normal a w) ∧
    ∀ i ∈ Region.ready md ops listed, wpOp P ops Q i (fun a' w' => C i w' ∧ wpAnyC P md ops Q C fuel (listed.setIfInBounds i true) a' w') a w
theorem wpAny_of_C : ∀ (fuel : Nat) (listed : Array Bool) (a : Act) (w : World), wpAnyC P md ops Q C fuel listed a w → wpAny P md ops Q fuel listed a w
  | 0, _, _, _, h => h
  | fuel + 1, _, _, _, h => ⟨h.1, fun i hi => wpOp_mono (fun a' w' h' => wpAny_of_C fuel _ a' w' h'.2) (h.2 i hi)⟩
/-- does operation j wait for operation i, straight or over others -/
def depOn (md : Region.Mode) (ops : Array Oper) : Nat → Nat → Nat → Bool
  | 0, _, _ => false
  | n + 1, j, i => match ops[j]? with
    | some o => o.after.any (fun e => Region.binds md e && e.on == i) || o.after.any (fun e => Region.binds md e && depOn md ops n e.on i)
    | none => false
def Down (md : Region.Mode) (ops : Array Oper) (listed : Array Bool) : Prop := ∀ k o, ops[k]? = some o → listed.getD k false = true → ∀ e ∈ o.after, Region.binds md e = true → listed.getD e.on false = true
theorem dep_listed {listed : Array Bool} (hd : Down md ops listed) {i : Nat} : ∀ (n j : Nat) (o : Oper), ops[j]? = some o → (∀ e ∈ o.after, Region.binds md e = true → listed.getD e.on false = true) → depOn md ops n j i = true → listed.getD i false = true := by
  intro n
  induction n with
  | zero => intro j o _ _ h; cases h
  | succ n ih =>
    intro j o ho hall h
    unfold depOn at h
    rw [ho] at h
    simp only [Bool.or_eq_true, Array.any_eq_true, Bool.and_eq_true, beq_iff_eq] at h
    rcases h with ⟨k, hk, hb, he⟩ | ⟨k, hk, hb, he⟩
    · rw [← he]; exact hall _ (Array.getElem_mem hk) hb
    · have h1 := hall _ (Array.getElem_mem hk) hb
      cases h2 : ops[o.after[k].on]? with
      | none => cases n with
        | zero => cases he
        | succ n => unfold depOn at he; rw [h2] at he; cases he
      | some o2 => exact ih _ o2 h2 (hd _ o2 h2 h1) he
theorem getD_false_of {listed : Array Bool} {i : Nat} (h : listed.getD i true = false) : listed.getD i false = false := by
  rcases Nat.lt_or_ge i listed.size with h' | h'
  · simp [h'] at h ⊢; exact h
  · simp [h'] at h
theorem Down.set {listed : Array Bool} (hd : Down md ops listed) {j : Nat} (hj : j ∈ Region.ready md ops listed) : Down md ops (listed.setIfInBounds j true) := by
  intro k o ho hk e he hb
  obtain ⟨_, oj, hoj, hall⟩ := mem_ready.1 hj
  by_cases hkj : j = k
  · subst hkj
    rw [hoj] at ho; injection ho with ho; subst ho
    exact getD_set_true (hall e he hb)
  · rw [getD_set_ne false hkj] at hk
    exact getD_set_true (hd k o ho hk e he hb)
theorem wpAnyC_first {i : Nat} {oi : Oper} {v : Value} (hi : ops[i]? = some oi) (hsel : ∀ (j : Nat) (o : Oper) cs b, ops[j]? = some o → o.op ≠ .select cs b)
    (hQ : ∀ c a w, Q (.panic c) (a.put oi.dst v) w → Q (.panic c) a w) (n : Nat) (hCi : ∀ w', S w' → C i w') :
    ∀ (fuel : Nat) (listed : Array Bool) (a : Act) (w : World), Down md ops listed →
      (∀ j oj, ops[j]? = some oj → j ≠ i → listed.getD j true = false → (∀ e ∈ oj.after, Region.binds md e = true → e.on ≠ i) → oi.apart ops oj = true) →
      (∀ j oj, ops[j]? = some oj → listed.getD j true = false → j ≠ i → depOn md ops n j i = false → ∀ w', C j w' → S w') →
      i ∈ Region.ready md ops listed → YieldsIf P ops S oi v a → S w →
      wpAnyC P md ops Q C fuel (listed.setIfInBounds i true) (a.put oi.dst v) w → wpAnyC P md ops Q C (fuel + 1) listed a w := by
  intro fuel
  induction fuel with
  | zero =>
    intro listed a w _ _ _ hr hy hS H
    refine ⟨fun h => (by rw [h] at hr; cases hr), fun j hj => ?_⟩
    by_cases hji : j = i
    · subst hji; exact hy.wpOp hi hS ⟨hCi w hS, H⟩
    · have := ready_mono hj hji
      rw [H.1] at this
      cases this
  | succ fuel ih =>
    intro listed a w hd hfree hC hr hy hS H
    refine ⟨fun h => (by rw [h] at hr; cases hr), fun j hj => ?_⟩
    by_cases hji : j = i
    · subst hji; exact hy.wpOp hi hS ⟨hCi w hS, H⟩
    · have h1 := H.2 j (ready_mono hj hji)
      obtain ⟨hjun, oj, hoj, hall⟩ := mem_ready.1 hj
      have hiun := getD_false_of (mem_ready.1 hr).1
      have hnot : ∀ e ∈ oj.after, Region.binds md e = true → e.on ≠ i := fun e he hb heq => by
        have h1 := hall e he hb
        rw [heq, hiun] at h1; cases h1
      have hnd : depOn md ops n j i = false := by
        rw [Bool.eq_false_iff]
        intro hh
        have := dep_listed hd n j oj hoj hall hh
        rw [hiun] at this; cases this
      have h2 := wpOp_putIf hoj (hfree j oj hoj hji hjun hnot) (fun cs b => hsel i oi cs b hi) (fun cs b => hsel j oj cs b hoj) hQ hy h1
      have hfree' : ∀ k ok, ops[k]? = some ok → k ≠ i → (listed.setIfInBounds j true).getD k true = false →
          (∀ e ∈ ok.after, Region.binds md e = true → e.on ≠ i) → oi.apart ops ok = true := fun k ok hk hki hun hno => by
        refine hfree k ok hk hki ?_ hno
        by_cases hjk : j = k
        · subst hjk; exact hjun
        · rw [getD_set_ne true hjk] at hun; exact hun
      have hC' : ∀ k ok, ops[k]? = some ok → (listed.setIfInBounds j true).getD k true = false → k ≠ i → depOn md ops n k i = false → ∀ w', C k w' → S w' := fun k ok hk hun hki hno => by
        refine hC k ok hk ?_ hki hno
        by_cases hjk : j = k
        · subst hjk; exact hjun
        · rw [getD_set_ne true hjk] at hun; exact hun
      refine wpOp_mono (fun a' w' h3 => ⟨h3.2.1, ih (listed.setIfInBounds j true) a' w' (hd.set hj) hfree' hC' (ready_mono hr (Ne.symm hji)) h3.1 (hC j oj hoj hjun hji hnd w' h3.2.1) ?_⟩) h2
      rw [Array.setIfInBounds_comm _ _ hji]
      exact h3.2.2
def downB (md : Region.Mode) (ops : Array Oper) (listed : Array Bool) : Bool := (List.range ops.size).all fun k => !listed.getD k false || ((ops[k]?).map fun o => o.after.all fun e => !Region.binds md e || listed.getD e.on false).getD true
theorem downB_spec {listed : Array Bool} (h : downB md ops listed = true) : Down md ops listed := by
  intro k o ho hk e he hb
  have hlt : k < ops.size := (Array.getElem?_eq_some_iff.1 ho).1
  have h1 := List.all_eq_true.1 h k (List.mem_range.2 hlt)
  rw [hk, ho] at h1
  simp only [Bool.not_true, Bool.false_or, Option.map_some, Option.getD_some, Array.all_eq_true_iff_forall_mem] at h1
  have h2 := h1 e he
  rw [hb] at h2
  simpa using h2
/-- operation i may be taken under level t -/
def takeB (md : Region.Mode) (ops : Array Oper) (listed : Array Bool) (c : List Nat) (i t : Nat) : Bool :=
  decide (c.getD i 0 ≤ t) && (List.range ops.size).all fun j => listed.getD j true || j == i || depOn md ops 12 j i || decide (t ≤ c.getD j 0)
/-- take operation i first: under the level t of conditions -/
theorem wpAnyC_take {Lv : Nat → World → Prop} {c : List Nat} (t : Nat) {i : Nat} {oi : Oper} {v : Value} {fuel : Nat} {listed : Array Bool} {a : Act} {w : World} (hmono : ∀ a b w, a ≤ b → Lv b w → Lv a w) (hi : ops[i]? = some oi)
    (hs : Region.noSelect ops = true) (hf : Region.free md ops listed i = true) (hr : (Region.ready md ops listed).contains i = true) (hd : downB md ops listed = true) (ht : takeB md ops listed c i t = true)
    (hQ : ∀ c a w, Q (.panic c) (a.put oi.dst v) w → Q (.panic c) a w) (hS : Lv t w) (hy : YieldsIf P ops (Lv t) oi v a)
    (h : wpAnyC P md ops Q (fun j => Lv (c.getD j 0)) fuel (listed.setIfInBounds i true) (a.put oi.dst v) w) : wpAnyC P md ops Q (fun j => Lv (c.getD j 0)) (fuel + 1) listed a w := by
  unfold takeB at ht
  rw [Bool.and_eq_true, decide_eq_true_eq] at ht
  refine wpAnyC_first (S := Lv t) (C := fun j => Lv (c.getD j 0)) hi (Region.noSelect_spec hs) hQ 12 (fun w' h' => hmono _ _ w' ht.1 h') fuel listed a w (downB_spec hd) (Region.free_spec hi hf) (fun j oj hoj hj hji hdj w' hc => ?_) (by simpa using hr) hy hS h
  have hlt : j < ops.size := (Array.getElem?_eq_some_iff.1 hoj).1
  have h1 := List.all_eq_true.1 ht.2 j (List.mem_range.2 hlt)
  rw [hj, hdj] at h1
  simp only [Bool.false_or, Bool.or_false, Bool.or_eq_true, beq_iff_eq, decide_eq_true_eq] at h1
  rcases h1 with h1 | h1
  · exact absurd h1 hji
  · exact hmono _ _ w' h1 hc
/-- one operation alone may come up -/
theorem wpAnyC_one {i : Nat} {o : Oper} {fuel : Nat} {listed : Array Bool} {a : Act} {w : World} (hr : Region.ready md ops listed = [i]) (ho : ops[i]? = some o)
    (h : ∀ K : Act → World → Prop, Shut (∀ a w, C i w → wpAnyC P md ops Q C fuel (listed.setIfInBounds i true) a w → K a w) → if Region.wanted o (yielded ops a.tmps) = true then Oper.wp P o a w K Q else K (a.put o.dst undef) w) : wpAnyC P md ops Q C (fuel + 1) listed a w := by
  refine ⟨fun h0 => (by rw [hr] at h0; cases h0), fun j hj => ?_⟩
  rw [hr, List.mem_singleton] at hj
  subst hj
  exact wpOp_step ho (fun K' hK => h K' (fun a w hC hW => hK a w ⟨hC, hW⟩))
theorem wpAnyC_done {listed : Array Bool} {a : Act} {w : World} (hr : Region.ready md ops listed = []) (h : Q .normal a w) : ∀ fuel, wpAnyC P md ops Q C fuel listed a w
  | 0 => ⟨hr, h⟩
  | _ + 1 => ⟨fun _ => h, by rw [hr]; simp⟩
theorem wp_region_C {id : Nat} {a : Act} {w : World} (hm : P.follows .mixedOrders = true)
    (h : wpAnyC P .any ops Q C ops.size (Array.replicate ops.size false) a w.drew) : (Code.region id ops true).wp P Q a w :=
  wp_region_any hm (wpAny_of_C _ _ _ _ h)
end
/-- levels of conditions: nothing, A, A and B -/
def lv2 (A B : World → Prop) : Nat → World → Prop
  | 0, _ => True
  | 1, w => A w
  | _ + 2, w => A w ∧ B w
theorem lv2_mono (A B : World → Prop) : ∀ a b w, a ≤ b → lv2 A B b w → lv2 A B a w
  | 0, _, _, _, _ => trivial
  | 1, 1, _, _, h => h
  | 1, _ + 2, _, _, h => h.1
  | _ + 2, _ + 2, _, _, h => h
end Go.Proofs.YtjckcbfpejcpcaaGreatDoor

/- l9Item and l29Extends of the reference: the walks. -/
namespace Go.Proofs.YtjckcbfpejcpcaaGreatDoor
open Go.RowKit Go.Sort

set_option maxRecDepth 100000 in
set_option maxHeartbeats 2000000 in
theorem sItem_c (p : DRule) (Ab : Option Addr) (cb : Nat) (An : Option Addr) (cn : Nat) (At : Option Addr) (ct : Nat) (Ak : Option Addr) (ck : Nat) (t : Int) (w : World) (h : RdS w p Ab cb An cn At ct Ak ck) (hk7 : p.kind = 7) (hl : p.kids.length = p.tags.length + 1) (hkn : ∀ j (hj : j < p.kids.length), p.kids[j] = (kd p j : Int)) :
    Gives Tryz.prog 57 #[vrule p (.slice Ab p.bytes.length cb) (.slice An p.names.length cn) (.slice At p.tags.length ct) (.slice Ak p.kids.length ck), .int .i64 t, .int .i64 0] w (.int .i64 (if tagN p.tags t < p.tags.length then (kd p (tagN p.tags t + 1) : Int) else -1)) := by
  have hlt := h.t.len; have hlk := h.k.len
  have eb := Ext_alloc (.cells #[.string p.nm, .int .i64 p.kind, .int .i64 p.size, .bool p.little, .slice Ab p.bytes.length cb, .slice An p.names.length cn, .slice At p.tags.length ct, .slice Ak p.kids.length ck] 97) (Ext.refl w)
  have BX := fun w' (e : Ext (w.alloc (.cells #[.string p.nm, .int .i64 p.kind, .int .i64 p.size, .bool p.little, .slice Ab p.bytes.length cb, .slice An p.names.length cn, .slice At p.tags.length ct, .slice Ak p.kids.length ck] 97)) w') => boxed e
  have FY : Hid (∀ k (hk : k < p.tags.length), (∀ j (hj : j < p.tags.length), j < k → p.tags[j] ≠ t) → p.tags[k] = t → (if tagN p.tags t < p.tags.length then (kd p (tagN p.tags t + 1) : Int) else -1) = (kd p (k + 1) : Int)) := by
    intro k hk hn he; rw [tagN_at hk he hn, if_pos hk]
  have FN : Hid ((∀ j (hj : j < p.tags.length), p.tags[j] ≠ t) → (if tagN p.tags t < p.tags.length then (kd p (tagN p.tags t + 1) : Int) else -1) = -1) := by
    intro hn; rw [tagN_none hn, if_neg (Nat.lt_irrefl _)]
  generalize (if tagN p.tags t < p.tags.length then (kd p (tagN p.tags t + 1) : Int) else -1) = R at *
  have k5 : (p.kind == 5) = false := by rw [hk7]; rfl
  have k6 : (p.kind == 6) = false := by rw [hk7]; rfl
  have k7 : (p.kind == 7) = true := by rw [hk7]; rfl
  have HKN := Lib.hid hkn; have HL1 := Lib.hid hl
  unfold vrule
  clear hk7 hkn hl
  go_enter Tryz.func57, Tryz.ntmps57
  go_wp2
  go_loopw [7] (fun ix wr => ∃ k : Nat, k ≤ p.tags.length ∧ ix = .int .i64 k ∧ Hid (∀ j (hj : j < p.tags.length), j < k → p.tags[j] ≠ t) ∧ Ext (w.alloc (.cells #[.string p.nm, .int .i64 p.kind, .int .i64 p.size, .bool p.little, .slice Ab p.bytes.length cb, .slice An p.names.length cn, .slice At p.tags.length ct, .slice Ak p.kids.length ck] 97)) wr) (fun ix _ => p.tags.length - (intOf ix).toNat)
  case atStart => exact ⟨0, by omega, rfl, (fun j _ hj => by omega), Ext.refl _⟩
  case round =>
    obtain ⟨k, hk, rfl, hn, he⟩ := hrel
    by_cases hlt : k < p.tags.length
    · obtain ⟨bt, ot, rfl, hbt, hct⟩ := (h.t.ext eb).at k hlt
      obtain ⟨bk, ok, rfl, hbk, hck⟩ := (h.k.ext eb).at (k + 1) (by have := HL1.out; omega)
      rw [HKN.out (k + 1) (by have := HL1.out; omega)] at hck
      have Y := Lib.hid (FY.out k hlt hn.out)
      have N : Hid (¬ p.tags[k] = t → ∀ j (hj : j < p.tags.length), j < k + 1 → p.tags[j] ≠ t) := fun hne j hj hjk => by
        rcases (by omega : j < k ∨ j = k) with hjk | rfl
        · exact hn.out j hj hjk
        · exact hne
      have d1 : decide ((k : Int) < (p.tags.length : Int)) = true := decide_eq_true (by omega)
      generalize p.tags[k] = x at *
      generalize kd p (k + 1) = y at *
      have hkl : k + 1 < p.kids.length := by have := HL1.out; omega
      clear FY FN hn h HKN
      by_cases hx : x = t
      · have HE := Lib.hid (Y.out hx); clear Y N
        have kx : (x == t) = true := by simpa using hx
        clear hx
        go_wp2
        go_ret
        exact ⟨ret_i64 HE.out.symm, eb.trans he⟩
      · have HE := Lib.hid (N.out hx); clear Y N
        have kx : (x == t) = false := by simpa using hx
        clear hx
        go_wp2
        go_roundw
        case rel => exact ⟨k + 1, by omega, by go_num, HE, he⟩
        case measure => simp [intOf]; omega
    · have HE := Lib.hid (FN.out (fun j hj => hn.out j hj (by omega)))
      have d1 : decide ((k : Int) < (p.tags.length : Int)) = false := decide_eq_false (by omega)
      clear FY FN
      go_wp2
      go_ret
      exact ⟨ret_i64 HE.out.symm, eb.trans he⟩
/-- four blocks that were laid one behind the other -/
theorem boxed4 {w : World} {c0 c1 c2 c3 : Array Value} {T0 T1 T2 T3 : TypeId} {w' : World} (h : Ext ((((w.alloc (.cells c0 T0)).alloc (.cells c1 T1)).alloc (.cells c2 T2)).alloc (.cells c3 T3)) w') :
    (∀ i, w'.cell? ⟨w.heap.size, i, none⟩ = c0[i]?) ∧ (∀ i, w'.cell? ⟨w.heap.size + 1, i, none⟩ = c1[i]?) ∧ (∀ i, w'.cell? ⟨w.heap.size + 1 + 1, i, none⟩ = c2[i]?) ∧ (∀ i, w'.cell? ⟨w.heap.size + 1 + 1 + 1, i, none⟩ = c3[i]?) := by
  have h1 := boxed2 h
  have h2 := boxed2 ((Ext_alloc _ (Ext_alloc _ (Ext.refl _))).trans h)
  have s1 : ((w.alloc (.cells c0 T0)).alloc (.cells c1 T1)).heap.size = w.heap.size + 1 + 1 := by simp
  rw [s1] at h1
  exact ⟨h2.1, h2.2.1, h1.1, h1.2.1⟩
theorem ext_no {a b : List DRule} (h : descOk a = true) (i j : Nat) (hi : i < a.length) (hj : j < b.length) (hh : extHead a[i] b[j] = false) : ext a b i j = false := by rw [ext_step h i j hi hj, hh]; rfl
theorem ext_yes {a b : List DRule} (h : descOk a = true) (i j : Nat) (hi : i < a.length) (hj : j < b.length) (hh : extHead a[i] b[j] = true) : ext a b i j = extTail (ext a b) a[i] b[j] := by rw [ext_step h i j hi hj, hh]; rfl
end Go.Proofs.YtjckcbfpejcpcaaGreatDoor

/- l9Own of the reference: a theorem a kind. -/
set_option linter.unusedSimpArgs false
set_option linter.unusedVariables false
namespace Go.Proofs.YtjckcbfpejcpcaaGreatDoor
open Go.RowKit Go.Sort

theorem beq0 (b : Nat) : ((b : Int) == 0) = (b == 0) := by
  by_cases h : b = 0
  · subst h; rfl
  · rw [beq_eq_false_iff_ne.2 h, beq_eq_false_iff_ne]; omega
theorem beq1 (b : Nat) : ((b : Int) == 1) = (b == 1) := by
  by_cases h : b = 1
  · simp [h]
  · rw [beq_eq_false_iff_ne.2 h, beq_eq_false_iff_ne]; omega
theorem beqN (b c : Nat) : ((b : Int) == (c : Int)) = (b == c) := by
  by_cases h : b = c
  · simp [h]
  · rw [beq_eq_false_iff_ne.2 h, beq_eq_false_iff_ne]; omega
theorem minI (a b : Int) : (if a < b then a else b) = min b a := by split <;> omega
theorem dec_le (b c : Nat) : decide ((b : Int) ≤ (c : Int)) = decide (b ≤ c) := by by_cases h : b ≤ c <;> simp [h]
theorem own_1 (ds : List DRule) (r : DRule) (v : DVal) (hk : r.kind = 1) : ownV ds r v.num v.bytes.length v.items.length = ((decide ((0 : Int) ≤ v.num) && decide (v.num ≤ limR r)) && ((v.bytes.length : Int) == 0) && ((v.items.length : Int) == 0)) := by
  unfold ownV
  rw [if_pos hk]
  rw [beq0, beq0]
theorem own_2 (ds : List DRule) (r : DRule) (v : DVal) (hk : r.kind = 2) : ownV ds r v.num v.bytes.length v.items.length = ((v.num == 0) && ((v.bytes.length : Int) == 0) && ((v.items.length : Int) == 0)) := by
  unfold ownV
  rw [if_neg (show ¬ r.kind = 1 by omega), if_pos hk]
  rw [beq0, beq0]
theorem own_3 (ds : List DRule) (r : DRule) (v : DVal) (hk : r.kind = 3) : ownV ds r v.num v.bytes.length v.items.length = ((v.num == 0) && ((v.bytes.length : Int) == r.size) && ((v.items.length : Int) == 0)) := by
  unfold ownV
  rw [if_neg (show ¬ r.kind = 1 by omega), if_neg (show ¬ r.kind = 2 by omega), if_pos hk]
  rw [beq0]; congr 2
theorem own_4 (ds : List DRule) (r : DRule) (v : DVal) (hk : r.kind = 4) : ownV ds r v.num v.bytes.length v.items.length = ((v.num == 0) && decide ((v.bytes.length : Int) ≤ (if limD ds (r.kids.getD 0 0) < 400 then limD ds (r.kids.getD 0 0) else 400)) && ((v.items.length : Int) == 0)) := by
  unfold ownV
  rw [if_neg (show ¬ r.kind = 1 by omega), if_neg (show ¬ r.kind = 2 by omega), if_neg (show ¬ r.kind = 3 by omega), if_pos hk]
  rw [minI, beq0]
theorem own_10 (ds : List DRule) (r : DRule) (v : DVal) (hk : r.kind = 10) : ownV ds r v.num v.bytes.length v.items.length = ((v.num == 0) && decide ((v.bytes.length : Int) ≤ 400) && ((v.items.length : Int) == 0)) := by
  unfold ownV
  rw [if_neg (show ¬ r.kind = 1 by omega), if_neg (show ¬ r.kind = 2 by omega), if_neg (show ¬ r.kind = 3 by omega), if_neg (show ¬ r.kind = 4 by omega), if_neg (show ¬ r.kind = 5 by omega), if_neg (show ¬ r.kind = 6 by omega), if_neg (show ¬ r.kind = 7 by omega), if_neg (show ¬ r.kind = 8 by omega), if_neg (show ¬ r.kind = 9 by omega)]
  rw [beq0]; congr 2; exact (dec_le _ 400).symm
theorem own_5 (ds : List DRule) (r : DRule) (v : DVal) (hk : r.kind = 5) : ownV ds r v.num v.bytes.length v.items.length = ((v.num == 0) && ((v.bytes.length : Int) == 0) && decide ((v.items.length : Int) ≤ (if limD ds (r.kids.getD 0 0) < 40 then limD ds (r.kids.getD 0 0) else 40))) := by
  unfold ownV
  rw [if_neg (show ¬ r.kind = 1 by omega), if_neg (show ¬ r.kind = 2 by omega), if_neg (show ¬ r.kind = 3 by omega), if_neg (show ¬ r.kind = 4 by omega), if_pos hk]
  rw [minI, beq0]
theorem own_6 (ds : List DRule) (r : DRule) (v : DVal) (hk : r.kind = 6) : ownV ds r v.num v.bytes.length v.items.length = ((v.num == 0) && ((v.bytes.length : Int) == 0) && ((v.items.length : Int) == (r.kids.length : Int))) := by
  unfold ownV
  rw [if_neg (show ¬ r.kind = 1 by omega), if_neg (show ¬ r.kind = 2 by omega), if_neg (show ¬ r.kind = 3 by omega), if_neg (show ¬ r.kind = 4 by omega), if_neg (show ¬ r.kind = 5 by omega), if_pos hk]
  rw [beq0, beqN]
theorem own_7 (ds : List DRule) (r : DRule) (v : DVal) (hk : r.kind = 7) : ownV ds r v.num v.bytes.length v.items.length = (((v.bytes.length : Int) == 0) && ((v.items.length : Int) == 1) && decide (tagN r.tags v.num < r.tags.length)) := by
  unfold ownV
  rw [if_neg (show ¬ r.kind = 1 by omega), if_neg (show ¬ r.kind = 2 by omega), if_neg (show ¬ r.kind = 3 by omega), if_neg (show ¬ r.kind = 4 by omega), if_neg (show ¬ r.kind = 5 by omega), if_neg (show ¬ r.kind = 6 by omega), if_pos hk]
  rw [beq0, beq1]; cases decide (tagN r.tags v.num < r.tags.length) <;> cases (v.bytes.length == 0) <;> cases (v.items.length == 1) <;> rfl
theorem own_8 (ds : List DRule) (r : DRule) (v : DVal) (hk : r.kind = 8) : ownV ds r v.num v.bytes.length v.items.length = ((v.num == 0) && ((v.bytes.length : Int) == 0) && decide ((v.items.length : Int) ≤ 1)) := by
  unfold ownV
  rw [if_neg (show ¬ r.kind = 1 by omega), if_neg (show ¬ r.kind = 2 by omega), if_neg (show ¬ r.kind = 3 by omega), if_neg (show ¬ r.kind = 4 by omega), if_neg (show ¬ r.kind = 5 by omega), if_neg (show ¬ r.kind = 6 by omega), if_neg (show ¬ r.kind = 7 by omega), if_pos hk]
  rw [beq0]; congr 1; exact (dec_le _ 1).symm
theorem own_9 (ds : List DRule) (r : DRule) (v : DVal) (hk : r.kind = 9) : ownV ds r v.num v.bytes.length v.items.length = ((v.num == 0) && ((v.bytes.length : Int) == 0) && ((v.items.length : Int) == 1)) := by
  unfold ownV
  rw [if_neg (show ¬ r.kind = 1 by omega), if_neg (show ¬ r.kind = 2 by omega), if_neg (show ¬ r.kind = 3 by omega), if_neg (show ¬ r.kind = 4 by omega), if_neg (show ¬ r.kind = 5 by omega), if_neg (show ¬ r.kind = 6 by omega), if_neg (show ¬ r.kind = 7 by omega), if_neg (show ¬ r.kind = 8 by omega), if_pos hk]
  rw [beq0, beq1]
set_option maxRecDepth 100000 in
set_option maxHeartbeats 4000000 in
theorem sOwn_1 (A : Option Addr) (ds : List DRule) (c : Nat) (r : DRule) (Ab : Option Addr) (cb : Nat) (An : Option Addr) (cn : Nat) (At : Option Addr) (ct : Nat) (Ak : Option Addr) (ck : Nat) (v : DVal) (Vb : Option Addr) (vb : Nat) (Vi : Option Addr) (vi : Nat) (w : World) (hd : RdD w A ds c) (h : RdS w r Ab cb An cn At ct Ak ck) (hb : v.bytes.length ≤ 9223372036854775807) (hi : v.items.length ≤ 9223372036854775807) (hk : r.kind = 1) (hsz : 1 ≤ r.size ∧ r.size ≤ 4) :
    Gives Tryz.prog 82 #[vdesc (.slice A ds.length c), vrule r (.slice Ab r.bytes.length cb) (.slice An r.names.length cn) (.slice At r.tags.length ct) (.slice Ak r.kids.length ck), vval v (.slice Vb v.bytes.length vb) (.slice Vi v.items.length vi)] w (.bool (ownV ds r v.num v.bytes.length v.items.length)) := by
  have HE := Lib.hid (own_1 ds r v hk)
  rw [HE.out]; clear HE
  have hlt := h.t.len; have hlk := h.k.len
  have eb := Ext_alloc (.cells #[.int .i64 v.num, .slice Vb v.bytes.length vb, .slice Vi v.items.length vi] 39) (Ext_alloc (.cells #[.string r.nm, .int .i64 r.kind, .int .i64 r.size, .bool r.little, .slice Ab r.bytes.length cb, .slice An r.names.length cn, .slice At r.tags.length ct, .slice Ak r.kids.length ck] 97) (Ext_alloc (.cells #[.slice A ds.length c] 35) (Ext.refl w)))
  have BX := fun w' (e : Ext (((w.alloc (.cells #[.slice A ds.length c] 35)).alloc (.cells #[.string r.nm, .int .i64 r.kind, .int .i64 r.size, .bool r.little, .slice Ab r.bytes.length cb, .slice An r.names.length cn, .slice At r.tags.length ct, .slice Ak r.kids.length ck] 97)).alloc (.cells #[.int .i64 v.num, .slice Vb v.bytes.length vb, .slice Vi v.items.length vi] 39)) w') => boxed3 e
  have B0 := fun w' e => (BX w' e).1 0; have B1 := fun w' e => (BX w' e).2.1; have B2 := fun w' e => (BX w' e).2.2.1
  simp only [List.getElem?_toArray, List.getElem?_cons_zero] at B0
  clear BX
  have q1 : (r.kind == 1) = true := by rw [hk]; rfl
  have q2 : (r.kind == 2) = false := by rw [hk]; rfl
  have q3 : (r.kind == 3) = false := by rw [hk]; rfl
  have q4 : (r.kind == 4) = false := by rw [hk]; rfl
  have q10 : (r.kind == 10) = false := by rw [hk]; rfl
  have q5 : (r.kind == 5) = false := by rw [hk]; rfl
  have q6 : (r.kind == 6) = false := by rw [hk]; rfl
  have q7 : (r.kind == 7) = false := by rw [hk]; rfl
  have q8 : (r.kind == 8) = false := by rw [hk]; rfl
  have q9 : (r.kind == 9) = false := by rw [hk]; rfl
  obtain ⟨s, hs⟩ := Int.eq_ofNat_of_zero_le (show 0 ≤ r.size by omega)
  have hlim : limR r = 256 ^ s - 1 := limR_yes hk s (by omega) (by omega) hs
  have CP : Hid (∀ w, Gives Tryz.prog 108 #[.int .i64 r.size] w (.int .i64 (256 ^ s))) := fun w => by rw [hs]; exact l2PowerN_c s w (by omega) (by omega)
  have CI := Lib.hid (fun w => l1In_c v.num 0 ((256 ^ s : Int) - 1) w)
  rw [← hlim] at CI
  have hlim2 : (256 ^ s : Int) - 1 = limR r := hlim.symm
  have hpw : (256 ^ s : Int) = 256 ∨ (256 ^ s : Int) = 65536 ∨ (256 ^ s : Int) = 16777216 ∨ (256 ^ s : Int) = 4294967296 := by rcases (by omega : s = 1 ∨ s = 2 ∨ s = 3 ∨ s = 4) with rfl | rfl | rfl | rfl <;> simp
  have hwr : IntKind.i64.wrap ((256 ^ s : Int) - 1) = limR r := by rw [← hlim2]; rcases hpw with e | e | e | e <;> rw [e] <;> rfl
  have hwr2 : wrap64 ((256 ^ s : Int) - 1) = limR r := by rw [← hlim2]; rcases hpw with e | e | e | e <;> rw [e] <;> first | (simp [wrap64]; done) | (unfold wrap64; omega) | rfl
  generalize (256 ^ s : Int) = pw at *
  clear hlim hlim2 hpw hsz hs
  clear h hk hd
  unfold vdesc vrule vval
  cases z0 : (decide ((0 : Int) ≤ v.num) && decide (v.num ≤ limR r))
  · rw [z0] at CI
    go_enter Tryz.func82, Tryz.ntmps82
    go_wp2_with fail
    refine wp_region_quiet_below (by kernel_rfl) (by kernel_rfl) ?_
    repeat (go_big_quiet_step ((first | (go_at_call 108; exact Calls.regrown_of (CP.out _)) | (go_at_call 80; exact Calls.regrown_of (CI.out _)))))
    refine wpQuiet_nil ?_
    rintro w1 ⟨⟨nq, osq⟩, hq⟩
    have ew1 := ext_of_q hq
    clear hq nq osq
    go_wp2
    go_ret
    exact ⟨ret_bool (by first | rfl | (simp; done) | (simp only [z0, Bool.false_and, Bool.and_false]; rfl)), eb.trans ew1⟩
  · rw [z0] at CI
    cases z1 : ((v.bytes.length : Int) == 0)
    · skip
      go_enter Tryz.func82, Tryz.ntmps82
      go_wp2_with fail
      refine wp_region_quiet_below (by kernel_rfl) (by kernel_rfl) ?_
      repeat (go_big_quiet_step ((first | (go_at_call 108; exact Calls.regrown_of (CP.out _)) | (go_at_call 80; exact Calls.regrown_of (CI.out _)))))
      refine wpQuiet_nil ?_
      rintro w1 ⟨⟨nq, osq⟩, hq⟩
      have ew1 := ext_of_q hq
      clear hq nq osq
      go_wp2
      go_ret
      exact ⟨ret_bool (by first | rfl | (simp; done) | (simp only [z0, z1, Bool.false_and, Bool.and_false]; rfl)), eb.trans ew1⟩
    · skip
      cases z2 : ((v.items.length : Int) == 0)
      · skip
        go_enter Tryz.func82, Tryz.ntmps82
        go_wp2_with fail
        refine wp_region_quiet_below (by kernel_rfl) (by kernel_rfl) ?_
        repeat (go_big_quiet_step ((first | (go_at_call 108; exact Calls.regrown_of (CP.out _)) | (go_at_call 80; exact Calls.regrown_of (CI.out _)))))
        refine wpQuiet_nil ?_
        rintro w1 ⟨⟨nq, osq⟩, hq⟩
        have ew1 := ext_of_q hq
        clear hq nq osq
        go_wp2
        go_ret
        exact ⟨ret_bool (by first | rfl | (simp; done) | (simp only [z0, z1, z2, Bool.false_and, Bool.and_false]; rfl)), eb.trans ew1⟩
      · skip
        go_enter Tryz.func82, Tryz.ntmps82
        go_wp2_with fail
        refine wp_region_quiet_below (by kernel_rfl) (by kernel_rfl) ?_
        repeat (go_big_quiet_step ((first | (go_at_call 108; exact Calls.regrown_of (CP.out _)) | (go_at_call 80; exact Calls.regrown_of (CI.out _)))))
        refine wpQuiet_nil ?_
        rintro w1 ⟨⟨nq, osq⟩, hq⟩
        have ew1 := ext_of_q hq
        clear hq nq osq
        go_wp2
        go_ret
        exact ⟨ret_bool (by first | rfl | (simp; done) | (simp only [z0, z1, z2]; rfl)), eb.trans ew1⟩
set_option maxRecDepth 100000 in
set_option maxHeartbeats 4000000 in
theorem sOwn_2 (A : Option Addr) (ds : List DRule) (c : Nat) (r : DRule) (Ab : Option Addr) (cb : Nat) (An : Option Addr) (cn : Nat) (At : Option Addr) (ct : Nat) (Ak : Option Addr) (ck : Nat) (v : DVal) (Vb : Option Addr) (vb : Nat) (Vi : Option Addr) (vi : Nat) (w : World) (hd : RdD w A ds c) (h : RdS w r Ab cb An cn At ct Ak ck) (hb : v.bytes.length ≤ 9223372036854775807) (hi : v.items.length ≤ 9223372036854775807) (hk : r.kind = 2) :
    Gives Tryz.prog 82 #[vdesc (.slice A ds.length c), vrule r (.slice Ab r.bytes.length cb) (.slice An r.names.length cn) (.slice At r.tags.length ct) (.slice Ak r.kids.length ck), vval v (.slice Vb v.bytes.length vb) (.slice Vi v.items.length vi)] w (.bool (ownV ds r v.num v.bytes.length v.items.length)) := by
  have HE := Lib.hid (own_2 ds r v hk)
  rw [HE.out]; clear HE
  have hlt := h.t.len; have hlk := h.k.len
  have eb := Ext_alloc (.cells #[.int .i64 v.num, .slice Vb v.bytes.length vb, .slice Vi v.items.length vi] 39) (Ext_alloc (.cells #[.string r.nm, .int .i64 r.kind, .int .i64 r.size, .bool r.little, .slice Ab r.bytes.length cb, .slice An r.names.length cn, .slice At r.tags.length ct, .slice Ak r.kids.length ck] 97) (Ext_alloc (.cells #[.slice A ds.length c] 35) (Ext.refl w)))
  have BX := fun w' (e : Ext (((w.alloc (.cells #[.slice A ds.length c] 35)).alloc (.cells #[.string r.nm, .int .i64 r.kind, .int .i64 r.size, .bool r.little, .slice Ab r.bytes.length cb, .slice An r.names.length cn, .slice At r.tags.length ct, .slice Ak r.kids.length ck] 97)).alloc (.cells #[.int .i64 v.num, .slice Vb v.bytes.length vb, .slice Vi v.items.length vi] 39)) w') => boxed3 e
  have B0 := fun w' e => (BX w' e).1 0; have B1 := fun w' e => (BX w' e).2.1; have B2 := fun w' e => (BX w' e).2.2.1
  simp only [List.getElem?_toArray, List.getElem?_cons_zero] at B0
  clear BX
  have q1 : (r.kind == 1) = false := by rw [hk]; rfl
  have q2 : (r.kind == 2) = true := by rw [hk]; rfl
  have q3 : (r.kind == 3) = false := by rw [hk]; rfl
  have q4 : (r.kind == 4) = false := by rw [hk]; rfl
  have q10 : (r.kind == 10) = false := by rw [hk]; rfl
  have q5 : (r.kind == 5) = false := by rw [hk]; rfl
  have q6 : (r.kind == 6) = false := by rw [hk]; rfl
  have q7 : (r.kind == 7) = false := by rw [hk]; rfl
  have q8 : (r.kind == 8) = false := by rw [hk]; rfl
  have q9 : (r.kind == 9) = false := by rw [hk]; rfl
  clear h hk
  unfold vdesc vrule vval
  cases z0 : (v.num == 0)
  · skip
    go_enter Tryz.func82, Tryz.ntmps82
    go_wp2
    go_ret
    exact ⟨ret_bool (by first | rfl | (simp; done) | (simp only [z0, Bool.false_and, Bool.and_false]; rfl)), eb⟩
  · skip
    cases z1 : ((v.bytes.length : Int) == 0)
    · skip
      go_enter Tryz.func82, Tryz.ntmps82
      go_wp2
      go_ret
      exact ⟨ret_bool (by first | rfl | (simp; done) | (simp only [z0, z1, Bool.false_and, Bool.and_false]; rfl)), eb⟩
    · skip
      cases z2 : ((v.items.length : Int) == 0)
      · skip
        go_enter Tryz.func82, Tryz.ntmps82
        go_wp2
        go_ret
        exact ⟨ret_bool (by first | rfl | (simp; done) | (simp only [z0, z1, z2, Bool.false_and, Bool.and_false]; rfl)), eb⟩
      · skip
        go_enter Tryz.func82, Tryz.ntmps82
        go_wp2
        go_ret
        exact ⟨ret_bool (by first | rfl | (simp; done) | (simp only [z0, z1, z2]; rfl)), eb⟩
set_option maxRecDepth 100000 in
set_option maxHeartbeats 4000000 in
theorem sOwn_3 (A : Option Addr) (ds : List DRule) (c : Nat) (r : DRule) (Ab : Option Addr) (cb : Nat) (An : Option Addr) (cn : Nat) (At : Option Addr) (ct : Nat) (Ak : Option Addr) (ck : Nat) (v : DVal) (Vb : Option Addr) (vb : Nat) (Vi : Option Addr) (vi : Nat) (w : World) (hd : RdD w A ds c) (h : RdS w r Ab cb An cn At ct Ak ck) (hb : v.bytes.length ≤ 9223372036854775807) (hi : v.items.length ≤ 9223372036854775807) (hk : r.kind = 3) :
    Gives Tryz.prog 82 #[vdesc (.slice A ds.length c), vrule r (.slice Ab r.bytes.length cb) (.slice An r.names.length cn) (.slice At r.tags.length ct) (.slice Ak r.kids.length ck), vval v (.slice Vb v.bytes.length vb) (.slice Vi v.items.length vi)] w (.bool (ownV ds r v.num v.bytes.length v.items.length)) := by
  have HE := Lib.hid (own_3 ds r v hk)
  rw [HE.out]; clear HE
  have hlt := h.t.len; have hlk := h.k.len
  have eb := Ext_alloc (.cells #[.int .i64 v.num, .slice Vb v.bytes.length vb, .slice Vi v.items.length vi] 39) (Ext_alloc (.cells #[.string r.nm, .int .i64 r.kind, .int .i64 r.size, .bool r.little, .slice Ab r.bytes.length cb, .slice An r.names.length cn, .slice At r.tags.length ct, .slice Ak r.kids.length ck] 97) (Ext_alloc (.cells #[.slice A ds.length c] 35) (Ext.refl w)))
  have BX := fun w' (e : Ext (((w.alloc (.cells #[.slice A ds.length c] 35)).alloc (.cells #[.string r.nm, .int .i64 r.kind, .int .i64 r.size, .bool r.little, .slice Ab r.bytes.length cb, .slice An r.names.length cn, .slice At r.tags.length ct, .slice Ak r.kids.length ck] 97)).alloc (.cells #[.int .i64 v.num, .slice Vb v.bytes.length vb, .slice Vi v.items.length vi] 39)) w') => boxed3 e
  have B0 := fun w' e => (BX w' e).1 0; have B1 := fun w' e => (BX w' e).2.1; have B2 := fun w' e => (BX w' e).2.2.1
  simp only [List.getElem?_toArray, List.getElem?_cons_zero] at B0
  clear BX
  have q1 : (r.kind == 1) = false := by rw [hk]; rfl
  have q2 : (r.kind == 2) = false := by rw [hk]; rfl
  have q3 : (r.kind == 3) = true := by rw [hk]; rfl
  have q4 : (r.kind == 4) = false := by rw [hk]; rfl
  have q10 : (r.kind == 10) = false := by rw [hk]; rfl
  have q5 : (r.kind == 5) = false := by rw [hk]; rfl
  have q6 : (r.kind == 6) = false := by rw [hk]; rfl
  have q7 : (r.kind == 7) = false := by rw [hk]; rfl
  have q8 : (r.kind == 8) = false := by rw [hk]; rfl
  have q9 : (r.kind == 9) = false := by rw [hk]; rfl
  clear h hk
  unfold vdesc vrule vval
  cases z0 : (v.num == 0)
  · skip
    go_enter Tryz.func82, Tryz.ntmps82
    go_wp2
    go_ret
    exact ⟨ret_bool (by first | rfl | (simp; done) | (simp only [z0, Bool.false_and, Bool.and_false]; rfl)), eb⟩
  · skip
    cases z1 : ((v.bytes.length : Int) == r.size)
    · skip
      go_enter Tryz.func82, Tryz.ntmps82
      go_wp2
      go_ret
      exact ⟨ret_bool (by first | rfl | (simp; done) | (simp only [z0, z1, Bool.false_and, Bool.and_false]; rfl)), eb⟩
    · skip
      cases z2 : ((v.items.length : Int) == 0)
      · skip
        go_enter Tryz.func82, Tryz.ntmps82
        go_wp2
        go_ret
        exact ⟨ret_bool (by first | rfl | (simp; done) | (simp only [z0, z1, z2, Bool.false_and, Bool.and_false]; rfl)), eb⟩
      · skip
        go_enter Tryz.func82, Tryz.ntmps82
        go_wp2
        go_ret
        exact ⟨ret_bool (by first | rfl | (simp; done) | (simp only [z0, z1, z2]; rfl)), eb⟩
set_option maxRecDepth 100000 in
set_option maxHeartbeats 4000000 in
theorem sOwn_4 (A : Option Addr) (ds : List DRule) (c : Nat) (r : DRule) (Ab : Option Addr) (cb : Nat) (An : Option Addr) (cn : Nat) (At : Option Addr) (ct : Nat) (Ak : Option Addr) (ck : Nat) (v : DVal) (Vb : Option Addr) (vb : Nat) (Vi : Option Addr) (vi : Nat) (w : World) (hd : RdD w A ds c) (h : RdS w r Ab cb An cn At ct Ak ck) (hb : v.bytes.length ≤ 9223372036854775807) (hi : v.items.length ≤ 9223372036854775807) (hk : r.kind = 4) (hkl : 0 < r.kids.length) :
    Gives Tryz.prog 82 #[vdesc (.slice A ds.length c), vrule r (.slice Ab r.bytes.length cb) (.slice An r.names.length cn) (.slice At r.tags.length ct) (.slice Ak r.kids.length ck), vval v (.slice Vb v.bytes.length vb) (.slice Vi v.items.length vi)] w (.bool (ownV ds r v.num v.bytes.length v.items.length)) := by
  have HE := Lib.hid (own_4 ds r v hk)
  rw [HE.out]; clear HE
  obtain ⟨bk, ok, hAk, hbk, hck⟩ := h.k.at 0 hkl
  subst hAk
  have hlt := h.t.len; have hlk := h.k.len
  have eb := Ext_alloc (.cells #[.int .i64 v.num, .slice Vb v.bytes.length vb, .slice Vi v.items.length vi] 39) (Ext_alloc (.cells #[.string r.nm, .int .i64 r.kind, .int .i64 r.size, .bool r.little, .slice Ab r.bytes.length cb, .slice An r.names.length cn, .slice At r.tags.length ct, .slice (some ⟨bk, ok, none⟩) r.kids.length ck] 97) (Ext_alloc (.cells #[.slice A ds.length c] 35) (Ext.refl w)))
  have BX := fun w' (e : Ext (((w.alloc (.cells #[.slice A ds.length c] 35)).alloc (.cells #[.string r.nm, .int .i64 r.kind, .int .i64 r.size, .bool r.little, .slice Ab r.bytes.length cb, .slice An r.names.length cn, .slice At r.tags.length ct, .slice (some ⟨bk, ok, none⟩) r.kids.length ck] 97)).alloc (.cells #[.int .i64 v.num, .slice Vb v.bytes.length vb, .slice Vi v.items.length vi] 39)) w') => boxed3 e
  have B0 := fun w' e => (BX w' e).1 0; have B1 := fun w' e => (BX w' e).2.1; have B2 := fun w' e => (BX w' e).2.2.1
  simp only [List.getElem?_toArray, List.getElem?_cons_zero] at B0
  clear BX
  have q1 : (r.kind == 1) = false := by rw [hk]; rfl
  have q2 : (r.kind == 2) = false := by rw [hk]; rfl
  have q3 : (r.kind == 3) = false := by rw [hk]; rfl
  have q4 : (r.kind == 4) = true := by rw [hk]; rfl
  have q10 : (r.kind == 10) = false := by rw [hk]; rfl
  have q5 : (r.kind == 5) = false := by rw [hk]; rfl
  have q6 : (r.kind == 6) = false := by rw [hk]; rfl
  have q7 : (r.kind == 7) = false := by rw [hk]; rfl
  have q8 : (r.kind == 8) = false := by rw [hk]; rfl
  have q9 : (r.kind == 9) = false := by rw [hk]; rfl
  simp only [Nat.add_zero] at hck
  replace hck := fun w' (e : Ext (((w.alloc (.cells #[.slice A ds.length c] 35)).alloc (.cells #[.string r.nm, .int .i64 r.kind, .int .i64 r.size, .bool r.little, .slice Ab r.bytes.length cb, .slice An r.names.length cn, .slice At r.tags.length ct, .slice (some ⟨bk, ok, none⟩) r.kids.length ck] 97)).alloc (.cells #[.int .i64 v.num, .slice Vb v.bytes.length vb, .slice Vi v.items.length vi] 39)) w') => hck w' (eb.trans e)
  have hg0 : r.kids.getD 0 0 = r.kids[0] := by simp [hkl]
  rw [hg0]
  generalize r.kids[0] = kz at *
  have CL := Lib.hid (fun w h => sLimit_c A ds c kz w h)
  have HD := Lib.hid hd
  have hkl2 : (0 : Int) < (r.kids.length : Int) := by omega
  generalize limD ds kz = L at *
  have CM := Lib.hid (fun w => sMin_c 400 L w)
  generalize (if L < 400 then L else 400) = M at *
  clear h hk hd
  unfold vdesc vrule vval at *
  cases z0 : (v.num == 0)
  · skip
    go_enter Tryz.func82, Tryz.ntmps82
    go_wp2_with fail
    refine wp_region_quiet_below (by kernel_rfl) (by kernel_rfl) ?_
    repeat (go_big_quiet_step ((first | (go_at_call 114; exact Calls.regrown_of (CL.out _ (HD.out.ext (eb.trans (by first | assumption | exact Ext_regrown _ _ (Ext.refl _)))))) | (go_at_call 107; exact Calls.regrown_of (CM.out _)))))
    refine wpQuiet_nil ?_
    rintro w1 ⟨⟨nq, osq⟩, hq⟩
    have ew1 := ext_of_q hq
    clear hq nq osq
    go_wp2
    go_ret
    exact ⟨ret_bool (by first | rfl | (simp; done) | (simp only [z0, Bool.false_and, Bool.and_false]; rfl)), eb.trans ew1⟩
  · skip
    cases z1 : decide ((v.bytes.length : Int) ≤ M)
    · skip
      go_enter Tryz.func82, Tryz.ntmps82
      go_wp2_with fail
      refine wp_region_quiet_below (by kernel_rfl) (by kernel_rfl) ?_
      repeat (go_big_quiet_step ((first | (go_at_call 114; exact Calls.regrown_of (CL.out _ (HD.out.ext (eb.trans (by first | assumption | exact Ext_regrown _ _ (Ext.refl _)))))) | (go_at_call 107; exact Calls.regrown_of (CM.out _)))))
      refine wpQuiet_nil ?_
      rintro w1 ⟨⟨nq, osq⟩, hq⟩
      have ew1 := ext_of_q hq
      clear hq nq osq
      go_wp2
      go_ret
      exact ⟨ret_bool (by first | rfl | (simp; done) | (simp only [z0, z1, Bool.false_and, Bool.and_false]; rfl)), eb.trans ew1⟩
    · skip
      cases z2 : ((v.items.length : Int) == 0)
      · skip
        go_enter Tryz.func82, Tryz.ntmps82
        go_wp2_with fail
        refine wp_region_quiet_below (by kernel_rfl) (by kernel_rfl) ?_
        repeat (go_big_quiet_step ((first | (go_at_call 114; exact Calls.regrown_of (CL.out _ (HD.out.ext (eb.trans (by first | assumption | exact Ext_regrown _ _ (Ext.refl _)))))) | (go_at_call 107; exact Calls.regrown_of (CM.out _)))))
        refine wpQuiet_nil ?_
        rintro w1 ⟨⟨nq, osq⟩, hq⟩
        have ew1 := ext_of_q hq
        clear hq nq osq
        go_wp2
        go_ret
        exact ⟨ret_bool (by first | rfl | (simp; done) | (simp only [z0, z1, z2, Bool.false_and, Bool.and_false]; rfl)), eb.trans ew1⟩
      · skip
        go_enter Tryz.func82, Tryz.ntmps82
        go_wp2_with fail
        refine wp_region_quiet_below (by kernel_rfl) (by kernel_rfl) ?_
        repeat (go_big_quiet_step ((first | (go_at_call 114; exact Calls.regrown_of (CL.out _ (HD.out.ext (eb.trans (by first | assumption | exact Ext_regrown _ _ (Ext.refl _)))))) | (go_at_call 107; exact Calls.regrown_of (CM.out _)))))
        refine wpQuiet_nil ?_
        rintro w1 ⟨⟨nq, osq⟩, hq⟩
        have ew1 := ext_of_q hq
        clear hq nq osq
        go_wp2
        go_ret
        exact ⟨ret_bool (by first | rfl | (simp; done) | (simp only [z0, z1, z2]; rfl)), eb.trans ew1⟩
set_option maxRecDepth 100000 in
set_option maxHeartbeats 4000000 in
theorem sOwn_10 (A : Option Addr) (ds : List DRule) (c : Nat) (r : DRule) (Ab : Option Addr) (cb : Nat) (An : Option Addr) (cn : Nat) (At : Option Addr) (ct : Nat) (Ak : Option Addr) (ck : Nat) (v : DVal) (Vb : Option Addr) (vb : Nat) (Vi : Option Addr) (vi : Nat) (w : World) (hd : RdD w A ds c) (h : RdS w r Ab cb An cn At ct Ak ck) (hb : v.bytes.length ≤ 9223372036854775807) (hi : v.items.length ≤ 9223372036854775807) (hk : r.kind = 10) :
    Gives Tryz.prog 82 #[vdesc (.slice A ds.length c), vrule r (.slice Ab r.bytes.length cb) (.slice An r.names.length cn) (.slice At r.tags.length ct) (.slice Ak r.kids.length ck), vval v (.slice Vb v.bytes.length vb) (.slice Vi v.items.length vi)] w (.bool (ownV ds r v.num v.bytes.length v.items.length)) := by
  have HE := Lib.hid (own_10 ds r v hk)
  rw [HE.out]; clear HE
  have hlt := h.t.len; have hlk := h.k.len
  have eb := Ext_alloc (.cells #[.int .i64 v.num, .slice Vb v.bytes.length vb, .slice Vi v.items.length vi] 39) (Ext_alloc (.cells #[.string r.nm, .int .i64 r.kind, .int .i64 r.size, .bool r.little, .slice Ab r.bytes.length cb, .slice An r.names.length cn, .slice At r.tags.length ct, .slice Ak r.kids.length ck] 97) (Ext_alloc (.cells #[.slice A ds.length c] 35) (Ext.refl w)))
  have BX := fun w' (e : Ext (((w.alloc (.cells #[.slice A ds.length c] 35)).alloc (.cells #[.string r.nm, .int .i64 r.kind, .int .i64 r.size, .bool r.little, .slice Ab r.bytes.length cb, .slice An r.names.length cn, .slice At r.tags.length ct, .slice Ak r.kids.length ck] 97)).alloc (.cells #[.int .i64 v.num, .slice Vb v.bytes.length vb, .slice Vi v.items.length vi] 39)) w') => boxed3 e
  have B0 := fun w' e => (BX w' e).1 0; have B1 := fun w' e => (BX w' e).2.1; have B2 := fun w' e => (BX w' e).2.2.1
  simp only [List.getElem?_toArray, List.getElem?_cons_zero] at B0
  clear BX
  have q1 : (r.kind == 1) = false := by rw [hk]; rfl
  have q2 : (r.kind == 2) = false := by rw [hk]; rfl
  have q3 : (r.kind == 3) = false := by rw [hk]; rfl
  have q4 : (r.kind == 4) = false := by rw [hk]; rfl
  have q10 : (r.kind == 10) = true := by rw [hk]; rfl
  have q5 : (r.kind == 5) = false := by rw [hk]; rfl
  have q6 : (r.kind == 6) = false := by rw [hk]; rfl
  have q7 : (r.kind == 7) = false := by rw [hk]; rfl
  have q8 : (r.kind == 8) = false := by rw [hk]; rfl
  have q9 : (r.kind == 9) = false := by rw [hk]; rfl
  clear h hk
  unfold vdesc vrule vval
  cases z0 : (v.num == 0)
  · skip
    go_enter Tryz.func82, Tryz.ntmps82
    go_wp2
    go_ret
    exact ⟨ret_bool (by first | rfl | (simp; done) | (simp only [z0, Bool.false_and, Bool.and_false]; rfl)), eb⟩
  · skip
    cases z1 : decide ((v.bytes.length : Int) ≤ 400)
    · have x1 : decide (v.bytes.length ≤ 400) = false := by rw [← z1]; first | exact (dec_le _ _).symm | exact (beqN _ _).symm
      go_enter Tryz.func82, Tryz.ntmps82
      go_wp2
      go_ret
      exact ⟨ret_bool (by first | rfl | (simp; done) | (simp only [z0, z1, Bool.false_and, Bool.and_false]; rfl)), eb⟩
    · have x1 : decide (v.bytes.length ≤ 400) = true := by rw [← z1]; first | exact (dec_le _ _).symm | exact (beqN _ _).symm
      cases z2 : ((v.items.length : Int) == 0)
      · skip
        go_enter Tryz.func82, Tryz.ntmps82
        go_wp2
        go_ret
        exact ⟨ret_bool (by first | rfl | (simp; done) | (simp only [z0, z1, z2, Bool.false_and, Bool.and_false]; rfl)), eb⟩
      · skip
        go_enter Tryz.func82, Tryz.ntmps82
        go_wp2
        go_ret
        exact ⟨ret_bool (by first | rfl | (simp; done) | (simp only [z0, z1, z2]; rfl)), eb⟩
set_option maxRecDepth 100000 in
set_option maxHeartbeats 4000000 in
theorem sOwn_5 (A : Option Addr) (ds : List DRule) (c : Nat) (r : DRule) (Ab : Option Addr) (cb : Nat) (An : Option Addr) (cn : Nat) (At : Option Addr) (ct : Nat) (Ak : Option Addr) (ck : Nat) (v : DVal) (Vb : Option Addr) (vb : Nat) (Vi : Option Addr) (vi : Nat) (w : World) (hd : RdD w A ds c) (h : RdS w r Ab cb An cn At ct Ak ck) (hb : v.bytes.length ≤ 9223372036854775807) (hi : v.items.length ≤ 9223372036854775807) (hk : r.kind = 5) (hkl : 0 < r.kids.length) :
    Gives Tryz.prog 82 #[vdesc (.slice A ds.length c), vrule r (.slice Ab r.bytes.length cb) (.slice An r.names.length cn) (.slice At r.tags.length ct) (.slice Ak r.kids.length ck), vval v (.slice Vb v.bytes.length vb) (.slice Vi v.items.length vi)] w (.bool (ownV ds r v.num v.bytes.length v.items.length)) := by
  have HE := Lib.hid (own_5 ds r v hk)
  rw [HE.out]; clear HE
  obtain ⟨bk, ok, hAk, hbk, hck⟩ := h.k.at 0 hkl
  subst hAk
  have hlt := h.t.len; have hlk := h.k.len
  have eb := Ext_alloc (.cells #[.int .i64 v.num, .slice Vb v.bytes.length vb, .slice Vi v.items.length vi] 39) (Ext_alloc (.cells #[.string r.nm, .int .i64 r.kind, .int .i64 r.size, .bool r.little, .slice Ab r.bytes.length cb, .slice An r.names.length cn, .slice At r.tags.length ct, .slice (some ⟨bk, ok, none⟩) r.kids.length ck] 97) (Ext_alloc (.cells #[.slice A ds.length c] 35) (Ext.refl w)))
  have BX := fun w' (e : Ext (((w.alloc (.cells #[.slice A ds.length c] 35)).alloc (.cells #[.string r.nm, .int .i64 r.kind, .int .i64 r.size, .bool r.little, .slice Ab r.bytes.length cb, .slice An r.names.length cn, .slice At r.tags.length ct, .slice (some ⟨bk, ok, none⟩) r.kids.length ck] 97)).alloc (.cells #[.int .i64 v.num, .slice Vb v.bytes.length vb, .slice Vi v.items.length vi] 39)) w') => boxed3 e
  have B0 := fun w' e => (BX w' e).1 0; have B1 := fun w' e => (BX w' e).2.1; have B2 := fun w' e => (BX w' e).2.2.1
  simp only [List.getElem?_toArray, List.getElem?_cons_zero] at B0
  clear BX
  have q1 : (r.kind == 1) = false := by rw [hk]; rfl
  have q2 : (r.kind == 2) = false := by rw [hk]; rfl
  have q3 : (r.kind == 3) = false := by rw [hk]; rfl
  have q4 : (r.kind == 4) = false := by rw [hk]; rfl
  have q10 : (r.kind == 10) = false := by rw [hk]; rfl
  have q5 : (r.kind == 5) = true := by rw [hk]; rfl
  have q6 : (r.kind == 6) = false := by rw [hk]; rfl
  have q7 : (r.kind == 7) = false := by rw [hk]; rfl
  have q8 : (r.kind == 8) = false := by rw [hk]; rfl
  have q9 : (r.kind == 9) = false := by rw [hk]; rfl
  simp only [Nat.add_zero] at hck
  replace hck := fun w' (e : Ext (((w.alloc (.cells #[.slice A ds.length c] 35)).alloc (.cells #[.string r.nm, .int .i64 r.kind, .int .i64 r.size, .bool r.little, .slice Ab r.bytes.length cb, .slice An r.names.length cn, .slice At r.tags.length ct, .slice (some ⟨bk, ok, none⟩) r.kids.length ck] 97)).alloc (.cells #[.int .i64 v.num, .slice Vb v.bytes.length vb, .slice Vi v.items.length vi] 39)) w') => hck w' (eb.trans e)
  have hg0 : r.kids.getD 0 0 = r.kids[0] := by simp [hkl]
  rw [hg0]
  generalize r.kids[0] = kz at *
  have CL := Lib.hid (fun w h => sLimit_c A ds c kz w h)
  have HD := Lib.hid hd
  have hkl2 : (0 : Int) < (r.kids.length : Int) := by omega
  generalize limD ds kz = L at *
  have CM := Lib.hid (fun w => sMin_c 40 L w)
  generalize (if L < 40 then L else 40) = M at *
  clear h hk hd
  unfold vdesc vrule vval at *
  cases z0 : (v.num == 0)
  · skip
    go_enter Tryz.func82, Tryz.ntmps82
    go_wp2_with fail
    refine wp_region_quiet_below (by kernel_rfl) (by kernel_rfl) ?_
    repeat (go_big_quiet_step ((first | (go_at_call 114; exact Calls.regrown_of (CL.out _ (HD.out.ext (eb.trans (by first | assumption | exact Ext_regrown _ _ (Ext.refl _)))))) | (go_at_call 107; exact Calls.regrown_of (CM.out _)))))
    refine wpQuiet_nil ?_
    rintro w1 ⟨⟨nq, osq⟩, hq⟩
    have ew1 := ext_of_q hq
    clear hq nq osq
    go_wp2
    go_ret
    exact ⟨ret_bool (by first | rfl | (simp; done) | (simp only [z0, Bool.false_and, Bool.and_false]; rfl)), eb.trans ew1⟩
  · skip
    cases z1 : ((v.bytes.length : Int) == 0)
    · skip
      go_enter Tryz.func82, Tryz.ntmps82
      go_wp2_with fail
      refine wp_region_quiet_below (by kernel_rfl) (by kernel_rfl) ?_
      repeat (go_big_quiet_step ((first | (go_at_call 114; exact Calls.regrown_of (CL.out _ (HD.out.ext (eb.trans (by first | assumption | exact Ext_regrown _ _ (Ext.refl _)))))) | (go_at_call 107; exact Calls.regrown_of (CM.out _)))))
      refine wpQuiet_nil ?_
      rintro w1 ⟨⟨nq, osq⟩, hq⟩
      have ew1 := ext_of_q hq
      clear hq nq osq
      go_wp2
      go_ret
      exact ⟨ret_bool (by first | rfl | (simp; done) | (simp only [z0, z1, Bool.false_and, Bool.and_false]; rfl)), eb.trans ew1⟩
    · skip
      cases z2 : decide ((v.items.length : Int) ≤ M)
      · skip
        go_enter Tryz.func82, Tryz.ntmps82
        go_wp2_with fail
        refine wp_region_quiet_below (by kernel_rfl) (by kernel_rfl) ?_
        repeat (go_big_quiet_step ((first | (go_at_call 114; exact Calls.regrown_of (CL.out _ (HD.out.ext (eb.trans (by first | assumption | exact Ext_regrown _ _ (Ext.refl _)))))) | (go_at_call 107; exact Calls.regrown_of (CM.out _)))))
        refine wpQuiet_nil ?_
        rintro w1 ⟨⟨nq, osq⟩, hq⟩
        have ew1 := ext_of_q hq
        clear hq nq osq
        go_wp2
        go_ret
        exact ⟨ret_bool (by first | rfl | (simp; done) | (simp only [z0, z1, z2, Bool.false_and, Bool.and_false]; rfl)), eb.trans ew1⟩
      · skip
        go_enter Tryz.func82, Tryz.ntmps82
        go_wp2_with fail
        refine wp_region_quiet_below (by kernel_rfl) (by kernel_rfl) ?_
        repeat (go_big_quiet_step ((first | (go_at_call 114; exact Calls.regrown_of (CL.out _ (HD.out.ext (eb.trans (by first | assumption | exact Ext_regrown _ _ (Ext.refl _)))))) | (go_at_call 107; exact Calls.regrown_of (CM.out _)))))
        refine wpQuiet_nil ?_
        rintro w1 ⟨⟨nq, osq⟩, hq⟩
        have ew1 := ext_of_q hq
        clear hq nq osq
        go_wp2
        go_ret
        exact ⟨ret_bool (by first | rfl | (simp; done) | (simp only [z0, z1, z2]; rfl)), eb.trans ew1⟩
set_option maxRecDepth 100000 in
set_option maxHeartbeats 4000000 in
theorem sOwn_6 (A : Option Addr) (ds : List DRule) (c : Nat) (r : DRule) (Ab : Option Addr) (cb : Nat) (An : Option Addr) (cn : Nat) (At : Option Addr) (ct : Nat) (Ak : Option Addr) (ck : Nat) (v : DVal) (Vb : Option Addr) (vb : Nat) (Vi : Option Addr) (vi : Nat) (w : World) (hd : RdD w A ds c) (h : RdS w r Ab cb An cn At ct Ak ck) (hb : v.bytes.length ≤ 9223372036854775807) (hi : v.items.length ≤ 9223372036854775807) (hk : r.kind = 6) :
    Gives Tryz.prog 82 #[vdesc (.slice A ds.length c), vrule r (.slice Ab r.bytes.length cb) (.slice An r.names.length cn) (.slice At r.tags.length ct) (.slice Ak r.kids.length ck), vval v (.slice Vb v.bytes.length vb) (.slice Vi v.items.length vi)] w (.bool (ownV ds r v.num v.bytes.length v.items.length)) := by
  have HE := Lib.hid (own_6 ds r v hk)
  rw [HE.out]; clear HE
  have hlt := h.t.len; have hlk := h.k.len
  have eb := Ext_alloc (.cells #[.int .i64 v.num, .slice Vb v.bytes.length vb, .slice Vi v.items.length vi] 39) (Ext_alloc (.cells #[.string r.nm, .int .i64 r.kind, .int .i64 r.size, .bool r.little, .slice Ab r.bytes.length cb, .slice An r.names.length cn, .slice At r.tags.length ct, .slice Ak r.kids.length ck] 97) (Ext_alloc (.cells #[.slice A ds.length c] 35) (Ext.refl w)))
  have BX := fun w' (e : Ext (((w.alloc (.cells #[.slice A ds.length c] 35)).alloc (.cells #[.string r.nm, .int .i64 r.kind, .int .i64 r.size, .bool r.little, .slice Ab r.bytes.length cb, .slice An r.names.length cn, .slice At r.tags.length ct, .slice Ak r.kids.length ck] 97)).alloc (.cells #[.int .i64 v.num, .slice Vb v.bytes.length vb, .slice Vi v.items.length vi] 39)) w') => boxed3 e
  have B0 := fun w' e => (BX w' e).1 0; have B1 := fun w' e => (BX w' e).2.1; have B2 := fun w' e => (BX w' e).2.2.1
  simp only [List.getElem?_toArray, List.getElem?_cons_zero] at B0
  clear BX
  have q1 : (r.kind == 1) = false := by rw [hk]; rfl
  have q2 : (r.kind == 2) = false := by rw [hk]; rfl
  have q3 : (r.kind == 3) = false := by rw [hk]; rfl
  have q4 : (r.kind == 4) = false := by rw [hk]; rfl
  have q10 : (r.kind == 10) = false := by rw [hk]; rfl
  have q5 : (r.kind == 5) = false := by rw [hk]; rfl
  have q6 : (r.kind == 6) = true := by rw [hk]; rfl
  have q7 : (r.kind == 7) = false := by rw [hk]; rfl
  have q8 : (r.kind == 8) = false := by rw [hk]; rfl
  have q9 : (r.kind == 9) = false := by rw [hk]; rfl
  clear h hk
  unfold vdesc vrule vval
  cases z0 : (v.num == 0)
  · skip
    go_enter Tryz.func82, Tryz.ntmps82
    go_wp2
    go_ret
    exact ⟨ret_bool (by first | rfl | (simp; done) | (simp only [z0, Bool.false_and, Bool.and_false]; rfl)), eb⟩
  · skip
    cases z1 : ((v.bytes.length : Int) == 0)
    · skip
      go_enter Tryz.func82, Tryz.ntmps82
      go_wp2
      go_ret
      exact ⟨ret_bool (by first | rfl | (simp; done) | (simp only [z0, z1, Bool.false_and, Bool.and_false]; rfl)), eb⟩
    · skip
      cases z2 : ((v.items.length : Int) == (r.kids.length : Int))
      · have x2 : (v.items.length == r.kids.length) = false := by rw [← z2]; first | exact (dec_le _ _).symm | exact (beqN _ _).symm
        go_enter Tryz.func82, Tryz.ntmps82
        go_wp2
        go_ret
        exact ⟨ret_bool (by first | rfl | (simp; done) | (simp only [z0, z1, z2, Bool.false_and, Bool.and_false]; rfl)), eb⟩
      · have x2 : (v.items.length == r.kids.length) = true := by rw [← z2]; first | exact (dec_le _ _).symm | exact (beqN _ _).symm
        go_enter Tryz.func82, Tryz.ntmps82
        go_wp2
        go_ret
        exact ⟨ret_bool (by first | rfl | (simp; done) | (simp only [z0, z1, z2]; rfl)), eb⟩
set_option maxRecDepth 100000 in
set_option maxHeartbeats 4000000 in
theorem sOwn_7 (A : Option Addr) (ds : List DRule) (c : Nat) (r : DRule) (Ab : Option Addr) (cb : Nat) (An : Option Addr) (cn : Nat) (At : Option Addr) (ct : Nat) (Ak : Option Addr) (ck : Nat) (v : DVal) (Vb : Option Addr) (vb : Nat) (Vi : Option Addr) (vi : Nat) (w : World) (hd : RdD w A ds c) (h : RdS w r Ab cb An cn At ct Ak ck) (hb : v.bytes.length ≤ 9223372036854775807) (hi : v.items.length ≤ 9223372036854775807) (hk : r.kind = 7) (hl : r.kids.length = r.tags.length + 1) (hkn : ∀ j (hj : j < r.kids.length), r.kids[j] = (kd r j : Int)) :
    Gives Tryz.prog 82 #[vdesc (.slice A ds.length c), vrule r (.slice Ab r.bytes.length cb) (.slice An r.names.length cn) (.slice At r.tags.length ct) (.slice Ak r.kids.length ck), vval v (.slice Vb v.bytes.length vb) (.slice Vi v.items.length vi)] w (.bool (ownV ds r v.num v.bytes.length v.items.length)) := by
  have HE := Lib.hid (own_7 ds r v hk)
  rw [HE.out]; clear HE
  have hlt := h.t.len; have hlk := h.k.len
  have eb := Ext_alloc (.cells #[.int .i64 v.num, .slice Vb v.bytes.length vb, .slice Vi v.items.length vi] 39) (Ext_alloc (.cells #[.string r.nm, .int .i64 r.kind, .int .i64 r.size, .bool r.little, .slice Ab r.bytes.length cb, .slice An r.names.length cn, .slice At r.tags.length ct, .slice Ak r.kids.length ck] 97) (Ext_alloc (.cells #[.slice A ds.length c] 35) (Ext.refl w)))
  have BX := fun w' (e : Ext (((w.alloc (.cells #[.slice A ds.length c] 35)).alloc (.cells #[.string r.nm, .int .i64 r.kind, .int .i64 r.size, .bool r.little, .slice Ab r.bytes.length cb, .slice An r.names.length cn, .slice At r.tags.length ct, .slice Ak r.kids.length ck] 97)).alloc (.cells #[.int .i64 v.num, .slice Vb v.bytes.length vb, .slice Vi v.items.length vi] 39)) w') => boxed3 e
  have B0 := fun w' e => (BX w' e).1 0; have B1 := fun w' e => (BX w' e).2.1; have B2 := fun w' e => (BX w' e).2.2.1
  simp only [List.getElem?_toArray, List.getElem?_cons_zero] at B0
  clear BX
  have q1 : (r.kind == 1) = false := by rw [hk]; rfl
  have q2 : (r.kind == 2) = false := by rw [hk]; rfl
  have q3 : (r.kind == 3) = false := by rw [hk]; rfl
  have q4 : (r.kind == 4) = false := by rw [hk]; rfl
  have q10 : (r.kind == 10) = false := by rw [hk]; rfl
  have q5 : (r.kind == 5) = false := by rw [hk]; rfl
  have q6 : (r.kind == 6) = false := by rw [hk]; rfl
  have q7 : (r.kind == 7) = true := by rw [hk]; rfl
  have q8 : (r.kind == 8) = false := by rw [hk]; rfl
  have q9 : (r.kind == 9) = false := by rw [hk]; rfl
  have CI := Lib.hid (fun t w h => sItem_c r Ab cb An cn At ct Ak ck t w h hk hl hkn)
  have HS := Lib.hid h
  clear hl hkn
  clear h hk
  unfold vdesc vrule vval at *
  have F3 : Hid (tagN r.tags v.num < r.tags.length → (if tagN r.tags v.num < r.tags.length then (kd r (tagN r.tags v.num + 1) : Int) else -1) = (kd r (tagN r.tags v.num + 1) : Int)) := fun hh => if_pos hh
  have G3 : Hid (¬ tagN r.tags v.num < r.tags.length → (if tagN r.tags v.num < r.tags.length then (kd r (tagN r.tags v.num + 1) : Int) else -1) = -1) := fun hh => if_neg hh
  cases z0 : ((v.bytes.length : Int) == 0)
  · clear CI
    go_enter Tryz.func82, Tryz.ntmps82
    go_wp2
    go_ret
    exact ⟨ret_bool (by first | rfl | (simp; done) | (simp only [z0, Bool.false_and, Bool.and_false]; rfl)), eb⟩
  · cases z1 : ((v.items.length : Int) == 1)
    · clear CI
      go_enter Tryz.func82, Tryz.ntmps82
      go_wp2
      go_ret
      exact ⟨ret_bool (by first | rfl | (simp; done) | (simp only [z0, z1, Bool.false_and, Bool.and_false]; rfl)), eb⟩
    · have CX := Lib.hid (fun w h => CI.out v.num w h)
      clear CI
      by_cases hin : tagN r.tags v.num < r.tags.length
      · have z2 : decide (tagN r.tags v.num < r.tags.length) = true := by simpa using hin
        have HR := Lib.hid (F3.out hin)
        rw [HR.out] at CX
        generalize kd r (tagN r.tags v.num + 1) = y at *
        clear hin F3 G3 HR
        go_enter Tryz.func82, Tryz.ntmps82
        go_wp2_with fail
        refine (CX.out _ (HS.out.ext eb)).mono ?_; rintro _ w1 ⟨rfl, he1⟩
        go_wp2
        go_ret
        exact ⟨ret_bool (by rw [z2]; first | rfl | (simp; done) | (simp; omega)), eb.trans he1⟩
      · have z2 : decide (tagN r.tags v.num < r.tags.length) = false := by simpa using hin
        have HR := Lib.hid (G3.out hin)
        rw [HR.out] at CX
        clear hin F3 G3 HR
        go_enter Tryz.func82, Tryz.ntmps82
        go_wp2_with fail
        refine (CX.out _ (HS.out.ext eb)).mono ?_; rintro _ w1 ⟨rfl, he1⟩
        go_wp2
        go_ret
        exact ⟨ret_bool (by rw [z2]; first | rfl | (simp; done) | (simp; omega)), eb.trans he1⟩
set_option maxRecDepth 100000 in
set_option maxHeartbeats 4000000 in
theorem sOwn_8 (A : Option Addr) (ds : List DRule) (c : Nat) (r : DRule) (Ab : Option Addr) (cb : Nat) (An : Option Addr) (cn : Nat) (At : Option Addr) (ct : Nat) (Ak : Option Addr) (ck : Nat) (v : DVal) (Vb : Option Addr) (vb : Nat) (Vi : Option Addr) (vi : Nat) (w : World) (hd : RdD w A ds c) (h : RdS w r Ab cb An cn At ct Ak ck) (hb : v.bytes.length ≤ 9223372036854775807) (hi : v.items.length ≤ 9223372036854775807) (hk : r.kind = 8) :
    Gives Tryz.prog 82 #[vdesc (.slice A ds.length c), vrule r (.slice Ab r.bytes.length cb) (.slice An r.names.length cn) (.slice At r.tags.length ct) (.slice Ak r.kids.length ck), vval v (.slice Vb v.bytes.length vb) (.slice Vi v.items.length vi)] w (.bool (ownV ds r v.num v.bytes.length v.items.length)) := by
  have HE := Lib.hid (own_8 ds r v hk)
  rw [HE.out]; clear HE
  have hlt := h.t.len; have hlk := h.k.len
  have eb := Ext_alloc (.cells #[.int .i64 v.num, .slice Vb v.bytes.length vb, .slice Vi v.items.length vi] 39) (Ext_alloc (.cells #[.string r.nm, .int .i64 r.kind, .int .i64 r.size, .bool r.little, .slice Ab r.bytes.length cb, .slice An r.names.length cn, .slice At r.tags.length ct, .slice Ak r.kids.length ck] 97) (Ext_alloc (.cells #[.slice A ds.length c] 35) (Ext.refl w)))
  have BX := fun w' (e : Ext (((w.alloc (.cells #[.slice A ds.length c] 35)).alloc (.cells #[.string r.nm, .int .i64 r.kind, .int .i64 r.size, .bool r.little, .slice Ab r.bytes.length cb, .slice An r.names.length cn, .slice At r.tags.length ct, .slice Ak r.kids.length ck] 97)).alloc (.cells #[.int .i64 v.num, .slice Vb v.bytes.length vb, .slice Vi v.items.length vi] 39)) w') => boxed3 e
  have B0 := fun w' e => (BX w' e).1 0; have B1 := fun w' e => (BX w' e).2.1; have B2 := fun w' e => (BX w' e).2.2.1
  simp only [List.getElem?_toArray, List.getElem?_cons_zero] at B0
  clear BX
  have q1 : (r.kind == 1) = false := by rw [hk]; rfl
  have q2 : (r.kind == 2) = false := by rw [hk]; rfl
  have q3 : (r.kind == 3) = false := by rw [hk]; rfl
  have q4 : (r.kind == 4) = false := by rw [hk]; rfl
  have q10 : (r.kind == 10) = false := by rw [hk]; rfl
  have q5 : (r.kind == 5) = false := by rw [hk]; rfl
  have q6 : (r.kind == 6) = false := by rw [hk]; rfl
  have q7 : (r.kind == 7) = false := by rw [hk]; rfl
  have q8 : (r.kind == 8) = true := by rw [hk]; rfl
  have q9 : (r.kind == 9) = false := by rw [hk]; rfl
  clear h hk
  unfold vdesc vrule vval
  cases z0 : (v.num == 0)
  · skip
    go_enter Tryz.func82, Tryz.ntmps82
    go_wp2
    go_ret
    exact ⟨ret_bool (by first | rfl | (simp; done) | (simp only [z0, Bool.false_and, Bool.and_false]; rfl)), eb⟩
  · skip
    cases z1 : ((v.bytes.length : Int) == 0)
    · skip
      go_enter Tryz.func82, Tryz.ntmps82
      go_wp2
      go_ret
      exact ⟨ret_bool (by first | rfl | (simp; done) | (simp only [z0, z1, Bool.false_and, Bool.and_false]; rfl)), eb⟩
    · skip
      cases z2 : decide ((v.items.length : Int) ≤ 1)
      · have x2 : decide (v.items.length ≤ 1) = false := by rw [← z2]; first | exact (dec_le _ _).symm | exact (beqN _ _).symm
        go_enter Tryz.func82, Tryz.ntmps82
        go_wp2
        go_ret
        exact ⟨ret_bool (by first | rfl | (simp; done) | (simp only [z0, z1, z2, Bool.false_and, Bool.and_false]; rfl)), eb⟩
      · have x2 : decide (v.items.length ≤ 1) = true := by rw [← z2]; first | exact (dec_le _ _).symm | exact (beqN _ _).symm
        go_enter Tryz.func82, Tryz.ntmps82
        go_wp2
        go_ret
        exact ⟨ret_bool (by first | rfl | (simp; done) | (simp only [z0, z1, z2]; rfl)), eb⟩
set_option maxRecDepth 100000 in
set_option maxHeartbeats 4000000 in
theorem sOwn_9 (A : Option Addr) (ds : List DRule) (c : Nat) (r : DRule) (Ab : Option Addr) (cb : Nat) (An : Option Addr) (cn : Nat) (At : Option Addr) (ct : Nat) (Ak : Option Addr) (ck : Nat) (v : DVal) (Vb : Option Addr) (vb : Nat) (Vi : Option Addr) (vi : Nat) (w : World) (hd : RdD w A ds c) (h : RdS w r Ab cb An cn At ct Ak ck) (hb : v.bytes.length ≤ 9223372036854775807) (hi : v.items.length ≤ 9223372036854775807) (hk : r.kind = 9) :
    Gives Tryz.prog 82 #[vdesc (.slice A ds.length c), vrule r (.slice Ab r.bytes.length cb) (.slice An r.names.length cn) (.slice At r.tags.length ct) (.slice Ak r.kids.length ck), vval v (.slice Vb v.bytes.length vb) (.slice Vi v.items.length vi)] w (.bool (ownV ds r v.num v.bytes.length v.items.length)) := by
  have HE := Lib.hid (own_9 ds r v hk)
  rw [HE.out]; clear HE
  have hlt := h.t.len; have hlk := h.k.len
  have eb := Ext_alloc (.cells #[.int .i64 v.num, .slice Vb v.bytes.length vb, .slice Vi v.items.length vi] 39) (Ext_alloc (.cells #[.string r.nm, .int .i64 r.kind, .int .i64 r.size, .bool r.little, .slice Ab r.bytes.length cb, .slice An r.names.length cn, .slice At r.tags.length ct, .slice Ak r.kids.length ck] 97) (Ext_alloc (.cells #[.slice A ds.length c] 35) (Ext.refl w)))
  have BX := fun w' (e : Ext (((w.alloc (.cells #[.slice A ds.length c] 35)).alloc (.cells #[.string r.nm, .int .i64 r.kind, .int .i64 r.size, .bool r.little, .slice Ab r.bytes.length cb, .slice An r.names.length cn, .slice At r.tags.length ct, .slice Ak r.kids.length ck] 97)).alloc (.cells #[.int .i64 v.num, .slice Vb v.bytes.length vb, .slice Vi v.items.length vi] 39)) w') => boxed3 e
  have B0 := fun w' e => (BX w' e).1 0; have B1 := fun w' e => (BX w' e).2.1; have B2 := fun w' e => (BX w' e).2.2.1
  simp only [List.getElem?_toArray, List.getElem?_cons_zero] at B0
  clear BX
  have q1 : (r.kind == 1) = false := by rw [hk]; rfl
  have q2 : (r.kind == 2) = false := by rw [hk]; rfl
  have q3 : (r.kind == 3) = false := by rw [hk]; rfl
  have q4 : (r.kind == 4) = false := by rw [hk]; rfl
  have q10 : (r.kind == 10) = false := by rw [hk]; rfl
  have q5 : (r.kind == 5) = false := by rw [hk]; rfl
  have q6 : (r.kind == 6) = false := by rw [hk]; rfl
  have q7 : (r.kind == 7) = false := by rw [hk]; rfl
  have q8 : (r.kind == 8) = false := by rw [hk]; rfl
  have q9 : (r.kind == 9) = true := by rw [hk]; rfl
  clear h hk
  unfold vdesc vrule vval
  cases z0 : (v.num == 0)
  · skip
    go_enter Tryz.func82, Tryz.ntmps82
    go_wp2
    go_ret
    exact ⟨ret_bool (by first | rfl | (simp; done) | (simp only [z0, Bool.false_and, Bool.and_false]; rfl)), eb⟩
  · skip
    cases z1 : ((v.bytes.length : Int) == 0)
    · skip
      go_enter Tryz.func82, Tryz.ntmps82
      go_wp2
      go_ret
      exact ⟨ret_bool (by first | rfl | (simp; done) | (simp only [z0, z1, Bool.false_and, Bool.and_false]; rfl)), eb⟩
    · skip
      cases z2 : ((v.items.length : Int) == 1)
      · skip
        go_enter Tryz.func82, Tryz.ntmps82
        go_wp2
        go_ret
        exact ⟨ret_bool (by first | rfl | (simp; done) | (simp only [z0, z1, z2, Bool.false_and, Bool.and_false]; rfl)), eb⟩
      · skip
        go_enter Tryz.func82, Tryz.ntmps82
        go_wp2
        go_ret
        exact ⟨ret_bool (by first | rfl | (simp; done) | (simp only [z0, z1, z2]; rfl)), eb⟩
end Go.Proofs.YtjckcbfpejcpcaaGreatDoor

/- fitsRule of the program: a theorem a kind. -/
set_option linter.unusedSimpArgs false
set_option linter.unusedVariables false
namespace Go.Proofs.YtjckcbfpejcpcaaGreatDoor
open Go.RowKit Go.Sort

/-- what fitsRule says: at a choice it does not look for the tag -/
def fitV (ds : List DRule) (r : DRule) (n : Int) (b m : Nat) : Bool :=
  if r.kind = 7 then (decide (0 ≤ n) && decide (n ≤ limD ds (r.kids.getD 0 0))) && (decide ((b : Int) ≤ 0) && decide ((m : Int) = 1)) else ownV ds r n b m
theorem dec_le0 (b : Nat) : decide ((b : Int) ≤ 0) = decide (b = 0) := by by_cases h : b = 0 <;> simp [h] <;> omega
theorem fit_1 (ds : List DRule) (i : Nat) (hi : i < ds.length) (v : DVal) (hk : ds[i].kind = 1) : fitV ds ds[i] v.num v.bytes.length v.items.length = ((decide ((0 : Int) ≤ v.num) && decide (v.num ≤ limR ds[i])) && (decide ((v.bytes.length : Int) ≤ 0) && decide ((v.items.length : Int) ≤ 0))) := by
  unfold fitV; rw [if_neg (by omega), own_1 ds ds[i] v hk, Bool.eq_iff_iff]
  simp only [Bool.and_eq_true, beq_iff_eq, decide_eq_true_eq, Bool.not_eq_true', bne_eq_false_iff_eq]
  omega
theorem fit_2 (ds : List DRule) (i : Nat) (hi : i < ds.length) (v : DVal) (hk : ds[i].kind = 2) : fitV ds ds[i] v.num v.bytes.length v.items.length = ((decide ((0 : Int) ≤ v.num) && decide (v.num ≤ 0)) && (decide ((v.bytes.length : Int) ≤ 0) && decide ((v.items.length : Int) ≤ 0))) := by
  unfold fitV; rw [if_neg (by omega), own_2 ds ds[i] v hk, Bool.eq_iff_iff]
  simp only [Bool.and_eq_true, beq_iff_eq, decide_eq_true_eq, Bool.not_eq_true', bne_eq_false_iff_eq]
  omega
theorem fit_3 (ds : List DRule) (i : Nat) (hi : i < ds.length) (v : DVal) (hk : ds[i].kind = 3) : fitV ds ds[i] v.num v.bytes.length v.items.length = (!((v.bytes.length : Int) != ds[i].size) && ((decide ((0 : Int) ≤ v.num) && decide (v.num ≤ 0)) && (decide ((v.bytes.length : Int) ≤ ds[i].size) && decide ((v.items.length : Int) ≤ 0)))) := by
  unfold fitV; rw [if_neg (by omega), own_3 ds ds[i] v hk, Bool.eq_iff_iff]
  simp only [Bool.and_eq_true, beq_iff_eq, decide_eq_true_eq, Bool.not_eq_true', bne_eq_false_iff_eq]
  omega
theorem fit_4 (ds : List DRule) (i : Nat) (hi : i < ds.length) (v : DVal) (hk : ds[i].kind = 4) : fitV ds ds[i] v.num v.bytes.length v.items.length = ((decide ((0 : Int) ≤ v.num) && decide (v.num ≤ 0)) && (decide ((v.bytes.length : Int) ≤ (if limD ds (ds[i].kids.getD 0 0) < 400 then limD ds (ds[i].kids.getD 0 0) else 400)) && decide ((v.items.length : Int) ≤ 0))) := by
  unfold fitV; rw [if_neg (by omega), own_4 ds ds[i] v hk, Bool.eq_iff_iff]
  simp only [Bool.and_eq_true, beq_iff_eq, decide_eq_true_eq, Bool.not_eq_true', bne_eq_false_iff_eq]
  omega
theorem fit_10 (ds : List DRule) (i : Nat) (hi : i < ds.length) (v : DVal) (hk : ds[i].kind = 10) : fitV ds ds[i] v.num v.bytes.length v.items.length = ((decide ((0 : Int) ≤ v.num) && decide (v.num ≤ 0)) && (decide ((v.bytes.length : Int) ≤ 400) && decide ((v.items.length : Int) ≤ 0))) := by
  unfold fitV; rw [if_neg (by omega), own_10 ds ds[i] v hk, Bool.eq_iff_iff]
  simp only [Bool.and_eq_true, beq_iff_eq, decide_eq_true_eq, Bool.not_eq_true', bne_eq_false_iff_eq]
  omega
theorem fit_5 (ds : List DRule) (i : Nat) (hi : i < ds.length) (v : DVal) (hk : ds[i].kind = 5) : fitV ds ds[i] v.num v.bytes.length v.items.length = ((decide ((0 : Int) ≤ v.num) && decide (v.num ≤ 0)) && (decide ((v.bytes.length : Int) ≤ 0) && decide ((v.items.length : Int) ≤ (if limD ds (ds[i].kids.getD 0 0) < 40 then limD ds (ds[i].kids.getD 0 0) else 40)))) := by
  unfold fitV; rw [if_neg (by omega), own_5 ds ds[i] v hk, Bool.eq_iff_iff]
  simp only [Bool.and_eq_true, beq_iff_eq, decide_eq_true_eq, Bool.not_eq_true', bne_eq_false_iff_eq]
  omega
theorem fit_6 (ds : List DRule) (i : Nat) (hi : i < ds.length) (v : DVal) (hk : ds[i].kind = 6) : fitV ds ds[i] v.num v.bytes.length v.items.length = (!((v.items.length : Int) != (ds[i].kids.length : Int)) && ((decide ((0 : Int) ≤ v.num) && decide (v.num ≤ 0)) && (decide ((v.bytes.length : Int) ≤ 0) && decide ((v.items.length : Int) ≤ (ds[i].kids.length : Int))))) := by
  unfold fitV; rw [if_neg (by omega), own_6 ds ds[i] v hk, Bool.eq_iff_iff]
  simp only [Bool.and_eq_true, beq_iff_eq, decide_eq_true_eq, Bool.not_eq_true', bne_eq_false_iff_eq]
  omega
theorem fit_7 (ds : List DRule) (i : Nat) (hi : i < ds.length) (v : DVal) (hk : ds[i].kind = 7) : fitV ds ds[i] v.num v.bytes.length v.items.length = (!((v.items.length : Int) != 1) && ((decide ((0 : Int) ≤ v.num) && decide (v.num ≤ limD ds (ds[i].kids.getD 0 0))) && (decide ((v.bytes.length : Int) ≤ 0) && decide ((v.items.length : Int) ≤ 1)))) := by
  unfold fitV; rw [if_pos hk, Bool.eq_iff_iff]
  simp only [Bool.and_eq_true, beq_iff_eq, decide_eq_true_eq, Bool.not_eq_true', bne_eq_false_iff_eq]
  omega
theorem fit_8 (ds : List DRule) (i : Nat) (hi : i < ds.length) (v : DVal) (hk : ds[i].kind = 8) : fitV ds ds[i] v.num v.bytes.length v.items.length = ((decide ((0 : Int) ≤ v.num) && decide (v.num ≤ 0)) && (decide ((v.bytes.length : Int) ≤ 0) && decide ((v.items.length : Int) ≤ 1))) := by
  unfold fitV; rw [if_neg (by omega), own_8 ds ds[i] v hk, Bool.eq_iff_iff]
  simp only [Bool.and_eq_true, beq_iff_eq, decide_eq_true_eq, Bool.not_eq_true', bne_eq_false_iff_eq]
  omega
theorem fit_9 (ds : List DRule) (i : Nat) (hi : i < ds.length) (v : DVal) (hk : ds[i].kind = 9) : fitV ds ds[i] v.num v.bytes.length v.items.length = (!((v.items.length : Int) != 1) && ((decide ((0 : Int) ≤ v.num) && decide (v.num ≤ 0)) && (decide ((v.bytes.length : Int) ≤ 0) && decide ((v.items.length : Int) ≤ 1)))) := by
  unfold fitV; rw [if_neg (by omega), own_9 ds ds[i] v hk, Bool.eq_iff_iff]
  simp only [Bool.and_eq_true, beq_iff_eq, decide_eq_true_eq, Bool.not_eq_true', bne_eq_false_iff_eq]
  omega
set_option maxRecDepth 100000 in
set_option maxHeartbeats 4000000 in
theorem iFit_1 (A : Option Addr) (ds : List DRule) (c : Nat) (i : Nat) (hi : i < ds.length) (v : DVal) (Vb : Option Addr) (vb : Nat) (Vi : Option Addr) (vi : Nat) (g off : Nat) (w : World) (hd : RdD w A ds c) (hv : ValAt w g off v (.slice Vb v.bytes.length vb) (.slice Vi v.items.length vi)) (hb : v.bytes.length ≤ 9223372036854775807) (hm : v.items.length ≤ 9223372036854775807) (hk : ds[i].kind = 1) (hsz : 1 ≤ ds[i].size ∧ ds[i].size ≤ 4) :
    Gives Tryz.prog 97 #[vdesc (.slice A ds.length c), .int .i64 (i : Int), .pointer (some ⟨g, off, none⟩)] w (.bool (fitV ds ds[i] v.num v.bytes.length v.items.length)) := by
  have HE := Lib.hid (fit_1 ds i hi v hk)
  rw [HE.out]; clear HE
  have hl := hd.len
  have HD := Lib.hid hd
  obtain ⟨b, ro, Ab, cb, An, cn, At, ct, Ak, ck, hA, hbb, hS, hR⟩ := hd.at i hi
  subst hA
  have eb := Ext_alloc (.cells #[.slice (some ⟨b, ro, none⟩) ds.length c] 35) (Ext.refl w)
  have BX := fun w' (e : Ext (w.alloc (.cells #[.slice (some ⟨b, ro, none⟩) ds.length c] 35)) w') => boxed e 0
  simp only [List.getElem?_toArray, List.getElem?_cons_zero] at BX
  have hlk := hS.k.len
  have CL := Lib.hid (fun w h => iLimit_c (some ⟨b, ro, none⟩) ds c (i : Int) w h)
  rw [limD_in hi] at CL
  obtain ⟨k0, k1, k2, k3, k4, k5, k6, k7⟩ := hR
  replace k0 := fun w' (e : Ext (w.alloc (.cells #[.slice (some ⟨b, ro, none⟩) ds.length c] 35)) w') => k0 w' (eb.trans e)
  replace k1 := fun w' (e : Ext (w.alloc (.cells #[.slice (some ⟨b, ro, none⟩) ds.length c] 35)) w') => k1 w' (eb.trans e)
  replace k2 := fun w' (e : Ext (w.alloc (.cells #[.slice (some ⟨b, ro, none⟩) ds.length c] 35)) w') => k2 w' (eb.trans e)
  replace k3 := fun w' (e : Ext (w.alloc (.cells #[.slice (some ⟨b, ro, none⟩) ds.length c] 35)) w') => k3 w' (eb.trans e)
  replace k4 := fun w' (e : Ext (w.alloc (.cells #[.slice (some ⟨b, ro, none⟩) ds.length c] 35)) w') => k4 w' (eb.trans e)
  replace k5 := fun w' (e : Ext (w.alloc (.cells #[.slice (some ⟨b, ro, none⟩) ds.length c] 35)) w') => k5 w' (eb.trans e)
  replace k6 := fun w' (e : Ext (w.alloc (.cells #[.slice (some ⟨b, ro, none⟩) ds.length c] 35)) w') => k6 w' (eb.trans e)
  replace k7 := fun w' (e : Ext (w.alloc (.cells #[.slice (some ⟨b, ro, none⟩) ds.length c] 35)) w') => k7 w' (eb.trans e)
  obtain ⟨v0, v1, v2⟩ := hv
  replace v0 := fun w' (e : Ext (w.alloc (.cells #[.slice (some ⟨b, ro, none⟩) ds.length c] 35)) w') => v0 w' (eb.trans e)
  replace v1 := fun w' (e : Ext (w.alloc (.cells #[.slice (some ⟨b, ro, none⟩) ds.length c] 35)) w') => v1 w' (eb.trans e)
  replace v2 := fun w' (e : Ext (w.alloc (.cells #[.slice (some ⟨b, ro, none⟩) ds.length c] 35)) w') => v2 w' (eb.trans e)
  have hlim : -1 ≤ limR ds[i] ∧ limR ds[i] ≤ 4294967295 := by rcases limR_cases ds[i] with e | e | e | e | e <;> rw [e] <;> omega
  generalize ds[i] = r at *
  have q1 : (r.kind == 1) = true := by rw [hk]; rfl
  have q3 : (r.kind == 3) = false := by rw [hk]; rfl
  have q4 : (r.kind == 4) = false := by rw [hk]; rfl
  have q10 : (r.kind == 10) = false := by rw [hk]; rfl
  have q5 : (r.kind == 5) = false := by rw [hk]; rfl
  have q6 : (r.kind == 6) = false := by rw [hk]; rfl
  have q7 : (r.kind == 7) = false := by rw [hk]; rfl
  have q8 : (r.kind == 8) = false := by rw [hk]; rfl
  have q9 : (r.kind == 9) = false := by rw [hk]; rfl
  clear hk hd hS hsz
  generalize limR r = L at *
  have CI := Lib.hid (fun w => iInRange_c v.num 0 L w)
  unfold vdesc at *
  generalize v.bytes.length = nb at *
  generalize v.items.length = nm at *
  generalize v.num = num at *
  cases z1 : (decide ((0 : Int) ≤ num) && decide (num ≤ L))
  · rw [z1] at CI
    go_enter Tryz.func97, Tryz.ntmps97
    go_wp2_with fail
    refine (CL.out _ (HD.out.ext eb)).mono ?_; rintro _ w1 ⟨rfl, ew1⟩
    go_wp2_with fail
    refine (CI.out _).mono ?_; rintro _ w2 ⟨rfl, ew2⟩
    have ew3 := ew1.trans ew2
    go_wp2
    go_ret
    exact ⟨ret_bool (by first | rfl | (simp; done) | (simp [*]; done) | (simp; omega)), eb.trans ew3⟩
  · rw [z1] at CI
    by_cases hnb : nb = 0
    · subst hnb
      by_cases hnm : nm = 0
      · subst hnm
        go_enter Tryz.func97, Tryz.ntmps97
        go_wp2_with fail
        refine (CL.out _ (HD.out.ext eb)).mono ?_; rintro _ w1 ⟨rfl, ew1⟩
        go_wp2_with fail
        refine (CI.out _).mono ?_; rintro _ w2 ⟨rfl, ew2⟩
        have ew3 := ew1.trans ew2
        go_wp2
        go_ret
        exact ⟨ret_bool (by first | rfl | (simp; done) | (simp [*]; done) | (simp; omega)), eb.trans ew3⟩
      · have dnm : decide ((nm : Int) ≤ 0) = false := decide_eq_false (by omega)
        go_enter Tryz.func97, Tryz.ntmps97
        go_wp2_with fail
        refine (CL.out _ (HD.out.ext eb)).mono ?_; rintro _ w1 ⟨rfl, ew1⟩
        go_wp2_with fail
        refine (CI.out _).mono ?_; rintro _ w2 ⟨rfl, ew2⟩
        have ew3 := ew1.trans ew2
        go_wp2
        go_ret
        exact ⟨ret_bool (by first | rfl | (simp; done) | (simp [*]; done) | (simp; omega)), eb.trans ew3⟩
    · have dnb : decide ((nb : Int) ≤ 0) = false := decide_eq_false (by omega)
      go_enter Tryz.func97, Tryz.ntmps97
      go_wp2_with fail
      refine (CL.out _ (HD.out.ext eb)).mono ?_; rintro _ w1 ⟨rfl, ew1⟩
      go_wp2_with fail
      refine (CI.out _).mono ?_; rintro _ w2 ⟨rfl, ew2⟩
      have ew3 := ew1.trans ew2
      go_wp2
      go_ret
      exact ⟨ret_bool (by first | rfl | (simp; done) | (simp [*]; done) | (simp; omega)), eb.trans ew3⟩
set_option maxRecDepth 100000 in
set_option maxHeartbeats 4000000 in
theorem iFit_2 (A : Option Addr) (ds : List DRule) (c : Nat) (i : Nat) (hi : i < ds.length) (v : DVal) (Vb : Option Addr) (vb : Nat) (Vi : Option Addr) (vi : Nat) (g off : Nat) (w : World) (hd : RdD w A ds c) (hv : ValAt w g off v (.slice Vb v.bytes.length vb) (.slice Vi v.items.length vi)) (hb : v.bytes.length ≤ 9223372036854775807) (hm : v.items.length ≤ 9223372036854775807) (hk : ds[i].kind = 2) :
    Gives Tryz.prog 97 #[vdesc (.slice A ds.length c), .int .i64 (i : Int), .pointer (some ⟨g, off, none⟩)] w (.bool (fitV ds ds[i] v.num v.bytes.length v.items.length)) := by
  have HE := Lib.hid (fit_2 ds i hi v hk)
  rw [HE.out]; clear HE
  have hl := hd.len
  have HD := Lib.hid hd
  obtain ⟨b, ro, Ab, cb, An, cn, At, ct, Ak, ck, hA, hbb, hS, hR⟩ := hd.at i hi
  subst hA
  have eb := Ext_alloc (.cells #[.slice (some ⟨b, ro, none⟩) ds.length c] 35) (Ext.refl w)
  have BX := fun w' (e : Ext (w.alloc (.cells #[.slice (some ⟨b, ro, none⟩) ds.length c] 35)) w') => boxed e 0
  simp only [List.getElem?_toArray, List.getElem?_cons_zero] at BX
  have hlk := hS.k.len
  obtain ⟨k0, k1, k2, k3, k4, k5, k6, k7⟩ := hR
  replace k0 := fun w' (e : Ext (w.alloc (.cells #[.slice (some ⟨b, ro, none⟩) ds.length c] 35)) w') => k0 w' (eb.trans e)
  replace k1 := fun w' (e : Ext (w.alloc (.cells #[.slice (some ⟨b, ro, none⟩) ds.length c] 35)) w') => k1 w' (eb.trans e)
  replace k2 := fun w' (e : Ext (w.alloc (.cells #[.slice (some ⟨b, ro, none⟩) ds.length c] 35)) w') => k2 w' (eb.trans e)
  replace k3 := fun w' (e : Ext (w.alloc (.cells #[.slice (some ⟨b, ro, none⟩) ds.length c] 35)) w') => k3 w' (eb.trans e)
  replace k4 := fun w' (e : Ext (w.alloc (.cells #[.slice (some ⟨b, ro, none⟩) ds.length c] 35)) w') => k4 w' (eb.trans e)
  replace k5 := fun w' (e : Ext (w.alloc (.cells #[.slice (some ⟨b, ro, none⟩) ds.length c] 35)) w') => k5 w' (eb.trans e)
  replace k6 := fun w' (e : Ext (w.alloc (.cells #[.slice (some ⟨b, ro, none⟩) ds.length c] 35)) w') => k6 w' (eb.trans e)
  replace k7 := fun w' (e : Ext (w.alloc (.cells #[.slice (some ⟨b, ro, none⟩) ds.length c] 35)) w') => k7 w' (eb.trans e)
  obtain ⟨v0, v1, v2⟩ := hv
  replace v0 := fun w' (e : Ext (w.alloc (.cells #[.slice (some ⟨b, ro, none⟩) ds.length c] 35)) w') => v0 w' (eb.trans e)
  replace v1 := fun w' (e : Ext (w.alloc (.cells #[.slice (some ⟨b, ro, none⟩) ds.length c] 35)) w') => v1 w' (eb.trans e)
  replace v2 := fun w' (e : Ext (w.alloc (.cells #[.slice (some ⟨b, ro, none⟩) ds.length c] 35)) w') => v2 w' (eb.trans e)
  generalize ds[i] = r at *
  have q1 : (r.kind == 1) = false := by rw [hk]; rfl
  have q3 : (r.kind == 3) = false := by rw [hk]; rfl
  have q4 : (r.kind == 4) = false := by rw [hk]; rfl
  have q10 : (r.kind == 10) = false := by rw [hk]; rfl
  have q5 : (r.kind == 5) = false := by rw [hk]; rfl
  have q6 : (r.kind == 6) = false := by rw [hk]; rfl
  have q7 : (r.kind == 7) = false := by rw [hk]; rfl
  have q8 : (r.kind == 8) = false := by rw [hk]; rfl
  have q9 : (r.kind == 9) = false := by rw [hk]; rfl
  clear hk hd hS
  have CI := Lib.hid (fun w => iInRange_c v.num 0 0 w)
  unfold vdesc at *
  generalize v.bytes.length = nb at *
  generalize v.items.length = nm at *
  generalize v.num = num at *
  cases z1 : (decide ((0 : Int) ≤ num) && decide (num ≤ 0))
  · rw [z1] at CI
    go_enter Tryz.func97, Tryz.ntmps97
    go_wp2_with fail
    refine (CI.out _).mono ?_; rintro _ w2 ⟨rfl, ew2⟩
    go_wp2
    go_ret
    exact ⟨ret_bool (by first | rfl | (simp; done) | (simp [*]; done) | (simp; omega)), eb.trans ew2⟩
  · rw [z1] at CI
    by_cases hnb : nb = 0
    · subst hnb
      by_cases hnm : nm = 0
      · subst hnm
        go_enter Tryz.func97, Tryz.ntmps97
        go_wp2_with fail
        refine (CI.out _).mono ?_; rintro _ w2 ⟨rfl, ew2⟩
        go_wp2
        go_ret
        exact ⟨ret_bool (by first | rfl | (simp; done) | (simp [*]; done) | (simp; omega)), eb.trans ew2⟩
      · have dnm : decide ((nm : Int) ≤ 0) = false := decide_eq_false (by omega)
        go_enter Tryz.func97, Tryz.ntmps97
        go_wp2_with fail
        refine (CI.out _).mono ?_; rintro _ w2 ⟨rfl, ew2⟩
        go_wp2
        go_ret
        exact ⟨ret_bool (by first | rfl | (simp; done) | (simp [*]; done) | (simp; omega)), eb.trans ew2⟩
    · have dnb : decide ((nb : Int) ≤ 0) = false := decide_eq_false (by omega)
      go_enter Tryz.func97, Tryz.ntmps97
      go_wp2_with fail
      refine (CI.out _).mono ?_; rintro _ w2 ⟨rfl, ew2⟩
      go_wp2
      go_ret
      exact ⟨ret_bool (by first | rfl | (simp; done) | (simp [*]; done) | (simp; omega)), eb.trans ew2⟩
set_option maxRecDepth 100000 in
set_option maxHeartbeats 4000000 in
theorem iFit_3 (A : Option Addr) (ds : List DRule) (c : Nat) (i : Nat) (hi : i < ds.length) (v : DVal) (Vb : Option Addr) (vb : Nat) (Vi : Option Addr) (vi : Nat) (g off : Nat) (w : World) (hd : RdD w A ds c) (hv : ValAt w g off v (.slice Vb v.bytes.length vb) (.slice Vi v.items.length vi)) (hb : v.bytes.length ≤ 9223372036854775807) (hm : v.items.length ≤ 9223372036854775807) (hk : ds[i].kind = 3) :
    Gives Tryz.prog 97 #[vdesc (.slice A ds.length c), .int .i64 (i : Int), .pointer (some ⟨g, off, none⟩)] w (.bool (fitV ds ds[i] v.num v.bytes.length v.items.length)) := by
  have HE := Lib.hid (fit_3 ds i hi v hk)
  rw [HE.out]; clear HE
  have hl := hd.len
  have HD := Lib.hid hd
  obtain ⟨b, ro, Ab, cb, An, cn, At, ct, Ak, ck, hA, hbb, hS, hR⟩ := hd.at i hi
  subst hA
  have eb := Ext_alloc (.cells #[.slice (some ⟨b, ro, none⟩) ds.length c] 35) (Ext.refl w)
  have BX := fun w' (e : Ext (w.alloc (.cells #[.slice (some ⟨b, ro, none⟩) ds.length c] 35)) w') => boxed e 0
  simp only [List.getElem?_toArray, List.getElem?_cons_zero] at BX
  have hlk := hS.k.len
  obtain ⟨k0, k1, k2, k3, k4, k5, k6, k7⟩ := hR
  replace k0 := fun w' (e : Ext (w.alloc (.cells #[.slice (some ⟨b, ro, none⟩) ds.length c] 35)) w') => k0 w' (eb.trans e)
  replace k1 := fun w' (e : Ext (w.alloc (.cells #[.slice (some ⟨b, ro, none⟩) ds.length c] 35)) w') => k1 w' (eb.trans e)
  replace k2 := fun w' (e : Ext (w.alloc (.cells #[.slice (some ⟨b, ro, none⟩) ds.length c] 35)) w') => k2 w' (eb.trans e)
  replace k3 := fun w' (e : Ext (w.alloc (.cells #[.slice (some ⟨b, ro, none⟩) ds.length c] 35)) w') => k3 w' (eb.trans e)
  replace k4 := fun w' (e : Ext (w.alloc (.cells #[.slice (some ⟨b, ro, none⟩) ds.length c] 35)) w') => k4 w' (eb.trans e)
  replace k5 := fun w' (e : Ext (w.alloc (.cells #[.slice (some ⟨b, ro, none⟩) ds.length c] 35)) w') => k5 w' (eb.trans e)
  replace k6 := fun w' (e : Ext (w.alloc (.cells #[.slice (some ⟨b, ro, none⟩) ds.length c] 35)) w') => k6 w' (eb.trans e)
  replace k7 := fun w' (e : Ext (w.alloc (.cells #[.slice (some ⟨b, ro, none⟩) ds.length c] 35)) w') => k7 w' (eb.trans e)
  obtain ⟨v0, v1, v2⟩ := hv
  replace v0 := fun w' (e : Ext (w.alloc (.cells #[.slice (some ⟨b, ro, none⟩) ds.length c] 35)) w') => v0 w' (eb.trans e)
  replace v1 := fun w' (e : Ext (w.alloc (.cells #[.slice (some ⟨b, ro, none⟩) ds.length c] 35)) w') => v1 w' (eb.trans e)
  replace v2 := fun w' (e : Ext (w.alloc (.cells #[.slice (some ⟨b, ro, none⟩) ds.length c] 35)) w') => v2 w' (eb.trans e)
  generalize ds[i] = r at *
  have q1 : (r.kind == 1) = false := by rw [hk]; rfl
  have q3 : (r.kind == 3) = true := by rw [hk]; rfl
  have q4 : (r.kind == 4) = false := by rw [hk]; rfl
  have q10 : (r.kind == 10) = false := by rw [hk]; rfl
  have q5 : (r.kind == 5) = false := by rw [hk]; rfl
  have q6 : (r.kind == 6) = false := by rw [hk]; rfl
  have q7 : (r.kind == 7) = false := by rw [hk]; rfl
  have q8 : (r.kind == 8) = false := by rw [hk]; rfl
  have q9 : (r.kind == 9) = false := by rw [hk]; rfl
  clear hk hd hS
  have CI := Lib.hid (fun w => iInRange_c v.num 0 0 w)
  unfold vdesc at *
  generalize v.bytes.length = nb at *
  generalize v.items.length = nm at *
  generalize v.num = num at *
  cases z0 : ((nb : Int) != r.size)
  · skip
    cases z1 : (decide ((0 : Int) ≤ num) && decide (num ≤ 0))
    · rw [z1] at CI
      go_enter Tryz.func97, Tryz.ntmps97
      go_wp2_with fail
      refine wp_region_quiet_below (by kernel_rfl) (by kernel_rfl) ?_
      repeat (go_big_quiet_step (fail))
      refine wpQuiet_nil ?_
      rintro w1 ⟨⟨nq, osq⟩, hq⟩
      have ew1 := ext_of_q hq
      clear hq nq osq
      go_wp2_with fail
      refine (CI.out _).mono ?_; rintro _ w2 ⟨rfl, ew2⟩
      have ew3 := ew1.trans ew2
      go_wp2
      go_ret
      exact ⟨ret_bool (by first | rfl | (simp; done) | (simp [*]; done) | (simp; omega)), eb.trans ew3⟩
    · rw [z1] at CI
      cases ynb : decide ((nb : Int) ≤ r.size)
      · skip
        go_enter Tryz.func97, Tryz.ntmps97
        go_wp2_with fail
        refine wp_region_quiet_below (by kernel_rfl) (by kernel_rfl) ?_
        repeat (go_big_quiet_step (fail))
        refine wpQuiet_nil ?_
        rintro w1 ⟨⟨nq, osq⟩, hq⟩
        have ew1 := ext_of_q hq
        clear hq nq osq
        go_wp2_with fail
        refine (CI.out _).mono ?_; rintro _ w2 ⟨rfl, ew2⟩
        have ew3 := ew1.trans ew2
        go_wp2
        go_ret
        exact ⟨ret_bool (by first | rfl | (simp; done) | (simp [*]; done) | (simp; omega)), eb.trans ew3⟩
      · skip
        by_cases hnm : nm = 0
        · subst hnm
          go_enter Tryz.func97, Tryz.ntmps97
          go_wp2_with fail
          refine wp_region_quiet_below (by kernel_rfl) (by kernel_rfl) ?_
          repeat (go_big_quiet_step (fail))
          refine wpQuiet_nil ?_
          rintro w1 ⟨⟨nq, osq⟩, hq⟩
          have ew1 := ext_of_q hq
          clear hq nq osq
          go_wp2_with fail
          refine (CI.out _).mono ?_; rintro _ w2 ⟨rfl, ew2⟩
          have ew3 := ew1.trans ew2
          go_wp2
          go_ret
          exact ⟨ret_bool (by first | rfl | (simp; done) | (simp [*]; done) | (simp; omega)), eb.trans ew3⟩
        · have dnm : decide ((nm : Int) ≤ 0) = false := decide_eq_false (by omega)
          go_enter Tryz.func97, Tryz.ntmps97
          go_wp2_with fail
          refine wp_region_quiet_below (by kernel_rfl) (by kernel_rfl) ?_
          repeat (go_big_quiet_step (fail))
          refine wpQuiet_nil ?_
          rintro w1 ⟨⟨nq, osq⟩, hq⟩
          have ew1 := ext_of_q hq
          clear hq nq osq
          go_wp2_with fail
          refine (CI.out _).mono ?_; rintro _ w2 ⟨rfl, ew2⟩
          have ew3 := ew1.trans ew2
          go_wp2
          go_ret
          exact ⟨ret_bool (by first | rfl | (simp; done) | (simp [*]; done) | (simp; omega)), eb.trans ew3⟩
  · skip
    go_enter Tryz.func97, Tryz.ntmps97
    go_wp2_with fail
    refine wp_region_quiet_below (by kernel_rfl) (by kernel_rfl) ?_
    repeat (go_big_quiet_step (fail))
    refine wpQuiet_nil ?_
    rintro w1 ⟨⟨nq, osq⟩, hq⟩
    have ew1 := ext_of_q hq
    clear hq nq osq
    go_wp2
    go_ret
    exact ⟨ret_bool (by first | rfl | (simp; done) | (simp [*]; done) | (simp; omega)), (eb.trans ew1)⟩
set_option maxRecDepth 100000 in
set_option maxHeartbeats 4000000 in
theorem iFit_4 (A : Option Addr) (ds : List DRule) (c : Nat) (i : Nat) (hi : i < ds.length) (v : DVal) (Vb : Option Addr) (vb : Nat) (Vi : Option Addr) (vi : Nat) (g off : Nat) (w : World) (hd : RdD w A ds c) (hv : ValAt w g off v (.slice Vb v.bytes.length vb) (.slice Vi v.items.length vi)) (hb : v.bytes.length ≤ 9223372036854775807) (hm : v.items.length ≤ 9223372036854775807) (hk : ds[i].kind = 4) (hkl : 0 < ds[i].kids.length) :
    Gives Tryz.prog 97 #[vdesc (.slice A ds.length c), .int .i64 (i : Int), .pointer (some ⟨g, off, none⟩)] w (.bool (fitV ds ds[i] v.num v.bytes.length v.items.length)) := by
  have HE := Lib.hid (fit_4 ds i hi v hk)
  rw [HE.out]; clear HE
  have hl := hd.len
  have HD := Lib.hid hd
  obtain ⟨b, ro, Ab, cb, An, cn, At, ct, Ak, ck, hA, hbb, hS, hR⟩ := hd.at i hi
  subst hA
  have eb := Ext_alloc (.cells #[.slice (some ⟨b, ro, none⟩) ds.length c] 35) (Ext.refl w)
  have BX := fun w' (e : Ext (w.alloc (.cells #[.slice (some ⟨b, ro, none⟩) ds.length c] 35)) w') => boxed e 0
  simp only [List.getElem?_toArray, List.getElem?_cons_zero] at BX
  have hlk := hS.k.len
  obtain ⟨bk, ok, hAk, hbk, hck⟩ := hS.k.at 0 hkl
  subst hAk
  simp only [Nat.add_zero] at hck
  replace hck := fun w' (e : Ext (w.alloc (.cells #[.slice (some ⟨b, ro, none⟩) ds.length c] 35)) w') => hck w' (eb.trans e)
  have hg0 : ds[i].kids.getD 0 0 = ds[i].kids[0] := by simp [hkl]
  rw [hg0]
  generalize ds[i].kids[0] = kz at *
  have CL := Lib.hid (fun w h => iLimit_c (some ⟨b, ro, none⟩) ds c kz w h)
  have hkl2 : (0 : Int) < (ds[i].kids.length : Int) := by omega
  generalize limD ds kz = L at *
  have CM := Lib.hid (fun w => iMin_c 400 L w)
  generalize (if L < 400 then L else 400) = M at *
  obtain ⟨k0, k1, k2, k3, k4, k5, k6, k7⟩ := hR
  replace k0 := fun w' (e : Ext (w.alloc (.cells #[.slice (some ⟨b, ro, none⟩) ds.length c] 35)) w') => k0 w' (eb.trans e)
  replace k1 := fun w' (e : Ext (w.alloc (.cells #[.slice (some ⟨b, ro, none⟩) ds.length c] 35)) w') => k1 w' (eb.trans e)
  replace k2 := fun w' (e : Ext (w.alloc (.cells #[.slice (some ⟨b, ro, none⟩) ds.length c] 35)) w') => k2 w' (eb.trans e)
  replace k3 := fun w' (e : Ext (w.alloc (.cells #[.slice (some ⟨b, ro, none⟩) ds.length c] 35)) w') => k3 w' (eb.trans e)
  replace k4 := fun w' (e : Ext (w.alloc (.cells #[.slice (some ⟨b, ro, none⟩) ds.length c] 35)) w') => k4 w' (eb.trans e)
  replace k5 := fun w' (e : Ext (w.alloc (.cells #[.slice (some ⟨b, ro, none⟩) ds.length c] 35)) w') => k5 w' (eb.trans e)
  replace k6 := fun w' (e : Ext (w.alloc (.cells #[.slice (some ⟨b, ro, none⟩) ds.length c] 35)) w') => k6 w' (eb.trans e)
  replace k7 := fun w' (e : Ext (w.alloc (.cells #[.slice (some ⟨b, ro, none⟩) ds.length c] 35)) w') => k7 w' (eb.trans e)
  obtain ⟨v0, v1, v2⟩ := hv
  replace v0 := fun w' (e : Ext (w.alloc (.cells #[.slice (some ⟨b, ro, none⟩) ds.length c] 35)) w') => v0 w' (eb.trans e)
  replace v1 := fun w' (e : Ext (w.alloc (.cells #[.slice (some ⟨b, ro, none⟩) ds.length c] 35)) w') => v1 w' (eb.trans e)
  replace v2 := fun w' (e : Ext (w.alloc (.cells #[.slice (some ⟨b, ro, none⟩) ds.length c] 35)) w') => v2 w' (eb.trans e)
  generalize ds[i] = r at *
  have q1 : (r.kind == 1) = false := by rw [hk]; rfl
  have q3 : (r.kind == 3) = false := by rw [hk]; rfl
  have q4 : (r.kind == 4) = true := by rw [hk]; rfl
  have q10 : (r.kind == 10) = false := by rw [hk]; rfl
  have q5 : (r.kind == 5) = false := by rw [hk]; rfl
  have q6 : (r.kind == 6) = false := by rw [hk]; rfl
  have q7 : (r.kind == 7) = false := by rw [hk]; rfl
  have q8 : (r.kind == 8) = false := by rw [hk]; rfl
  have q9 : (r.kind == 9) = false := by rw [hk]; rfl
  clear hk hd hS
  have CI := Lib.hid (fun w => iInRange_c v.num 0 0 w)
  unfold vdesc at *
  generalize v.bytes.length = nb at *
  generalize v.items.length = nm at *
  generalize v.num = num at *
  cases z1 : (decide ((0 : Int) ≤ num) && decide (num ≤ 0))
  · rw [z1] at CI
    go_enter Tryz.func97, Tryz.ntmps97
    go_wp2_with fail
    refine wp_region_quiet_below (by kernel_rfl) (by kernel_rfl) ?_
    repeat (go_big_quiet_step ((first | (go_at_call 127; exact Calls.regrown_of (CL.out _ (HD.out.ext (eb.trans (by first | assumption | exact Ext_regrown _ _ (Ext.refl _)))))) | (go_at_call 128; exact Calls.regrown_of (CM.out _)))))
    refine wpQuiet_nil ?_
    rintro w1 ⟨⟨nq, osq⟩, hq⟩
    have ew1 := ext_of_q hq
    clear hq nq osq
    go_wp2_with fail
    refine (CI.out _).mono ?_; rintro _ w2 ⟨rfl, ew2⟩
    have ew3 := ew1.trans ew2
    go_wp2
    go_ret
    exact ⟨ret_bool (by first | rfl | (simp; done) | (simp [*]; done) | (simp; omega)), eb.trans ew3⟩
  · rw [z1] at CI
    cases ynb : decide ((nb : Int) ≤ M)
    · skip
      go_enter Tryz.func97, Tryz.ntmps97
      go_wp2_with fail
      refine wp_region_quiet_below (by kernel_rfl) (by kernel_rfl) ?_
      repeat (go_big_quiet_step ((first | (go_at_call 127; exact Calls.regrown_of (CL.out _ (HD.out.ext (eb.trans (by first | assumption | exact Ext_regrown _ _ (Ext.refl _)))))) | (go_at_call 128; exact Calls.regrown_of (CM.out _)))))
      refine wpQuiet_nil ?_
      rintro w1 ⟨⟨nq, osq⟩, hq⟩
      have ew1 := ext_of_q hq
      clear hq nq osq
      go_wp2_with fail
      refine (CI.out _).mono ?_; rintro _ w2 ⟨rfl, ew2⟩
      have ew3 := ew1.trans ew2
      go_wp2
      go_ret
      exact ⟨ret_bool (by first | rfl | (simp; done) | (simp [*]; done) | (simp; omega)), eb.trans ew3⟩
    · skip
      by_cases hnm : nm = 0
      · subst hnm
        go_enter Tryz.func97, Tryz.ntmps97
        go_wp2_with fail
        refine wp_region_quiet_below (by kernel_rfl) (by kernel_rfl) ?_
        repeat (go_big_quiet_step ((first | (go_at_call 127; exact Calls.regrown_of (CL.out _ (HD.out.ext (eb.trans (by first | assumption | exact Ext_regrown _ _ (Ext.refl _)))))) | (go_at_call 128; exact Calls.regrown_of (CM.out _)))))
        refine wpQuiet_nil ?_
        rintro w1 ⟨⟨nq, osq⟩, hq⟩
        have ew1 := ext_of_q hq
        clear hq nq osq
        go_wp2_with fail
        refine (CI.out _).mono ?_; rintro _ w2 ⟨rfl, ew2⟩
        have ew3 := ew1.trans ew2
        go_wp2
        go_ret
        exact ⟨ret_bool (by first | rfl | (simp; done) | (simp [*]; done) | (simp; omega)), eb.trans ew3⟩
      · have dnm : decide ((nm : Int) ≤ 0) = false := decide_eq_false (by omega)
        go_enter Tryz.func97, Tryz.ntmps97
        go_wp2_with fail
        refine wp_region_quiet_below (by kernel_rfl) (by kernel_rfl) ?_
        repeat (go_big_quiet_step ((first | (go_at_call 127; exact Calls.regrown_of (CL.out _ (HD.out.ext (eb.trans (by first | assumption | exact Ext_regrown _ _ (Ext.refl _)))))) | (go_at_call 128; exact Calls.regrown_of (CM.out _)))))
        refine wpQuiet_nil ?_
        rintro w1 ⟨⟨nq, osq⟩, hq⟩
        have ew1 := ext_of_q hq
        clear hq nq osq
        go_wp2_with fail
        refine (CI.out _).mono ?_; rintro _ w2 ⟨rfl, ew2⟩
        have ew3 := ew1.trans ew2
        go_wp2
        go_ret
        exact ⟨ret_bool (by first | rfl | (simp; done) | (simp [*]; done) | (simp; omega)), eb.trans ew3⟩
set_option maxRecDepth 100000 in
set_option maxHeartbeats 4000000 in
theorem iFit_10 (A : Option Addr) (ds : List DRule) (c : Nat) (i : Nat) (hi : i < ds.length) (v : DVal) (Vb : Option Addr) (vb : Nat) (Vi : Option Addr) (vi : Nat) (g off : Nat) (w : World) (hd : RdD w A ds c) (hv : ValAt w g off v (.slice Vb v.bytes.length vb) (.slice Vi v.items.length vi)) (hb : v.bytes.length ≤ 9223372036854775807) (hm : v.items.length ≤ 9223372036854775807) (hk : ds[i].kind = 10) :
    Gives Tryz.prog 97 #[vdesc (.slice A ds.length c), .int .i64 (i : Int), .pointer (some ⟨g, off, none⟩)] w (.bool (fitV ds ds[i] v.num v.bytes.length v.items.length)) := by
  have HE := Lib.hid (fit_10 ds i hi v hk)
  rw [HE.out]; clear HE
  have hl := hd.len
  have HD := Lib.hid hd
  obtain ⟨b, ro, Ab, cb, An, cn, At, ct, Ak, ck, hA, hbb, hS, hR⟩ := hd.at i hi
  subst hA
  have eb := Ext_alloc (.cells #[.slice (some ⟨b, ro, none⟩) ds.length c] 35) (Ext.refl w)
  have BX := fun w' (e : Ext (w.alloc (.cells #[.slice (some ⟨b, ro, none⟩) ds.length c] 35)) w') => boxed e 0
  simp only [List.getElem?_toArray, List.getElem?_cons_zero] at BX
  have hlk := hS.k.len
  obtain ⟨k0, k1, k2, k3, k4, k5, k6, k7⟩ := hR
  replace k0 := fun w' (e : Ext (w.alloc (.cells #[.slice (some ⟨b, ro, none⟩) ds.length c] 35)) w') => k0 w' (eb.trans e)
  replace k1 := fun w' (e : Ext (w.alloc (.cells #[.slice (some ⟨b, ro, none⟩) ds.length c] 35)) w') => k1 w' (eb.trans e)
  replace k2 := fun w' (e : Ext (w.alloc (.cells #[.slice (some ⟨b, ro, none⟩) ds.length c] 35)) w') => k2 w' (eb.trans e)
  replace k3 := fun w' (e : Ext (w.alloc (.cells #[.slice (some ⟨b, ro, none⟩) ds.length c] 35)) w') => k3 w' (eb.trans e)
  replace k4 := fun w' (e : Ext (w.alloc (.cells #[.slice (some ⟨b, ro, none⟩) ds.length c] 35)) w') => k4 w' (eb.trans e)
  replace k5 := fun w' (e : Ext (w.alloc (.cells #[.slice (some ⟨b, ro, none⟩) ds.length c] 35)) w') => k5 w' (eb.trans e)
  replace k6 := fun w' (e : Ext (w.alloc (.cells #[.slice (some ⟨b, ro, none⟩) ds.length c] 35)) w') => k6 w' (eb.trans e)
  replace k7 := fun w' (e : Ext (w.alloc (.cells #[.slice (some ⟨b, ro, none⟩) ds.length c] 35)) w') => k7 w' (eb.trans e)
  obtain ⟨v0, v1, v2⟩ := hv
  replace v0 := fun w' (e : Ext (w.alloc (.cells #[.slice (some ⟨b, ro, none⟩) ds.length c] 35)) w') => v0 w' (eb.trans e)
  replace v1 := fun w' (e : Ext (w.alloc (.cells #[.slice (some ⟨b, ro, none⟩) ds.length c] 35)) w') => v1 w' (eb.trans e)
  replace v2 := fun w' (e : Ext (w.alloc (.cells #[.slice (some ⟨b, ro, none⟩) ds.length c] 35)) w') => v2 w' (eb.trans e)
  generalize ds[i] = r at *
  have q1 : (r.kind == 1) = false := by rw [hk]; rfl
  have q3 : (r.kind == 3) = false := by rw [hk]; rfl
  have q4 : (r.kind == 4) = false := by rw [hk]; rfl
  have q10 : (r.kind == 10) = true := by rw [hk]; rfl
  have q5 : (r.kind == 5) = false := by rw [hk]; rfl
  have q6 : (r.kind == 6) = false := by rw [hk]; rfl
  have q7 : (r.kind == 7) = false := by rw [hk]; rfl
  have q8 : (r.kind == 8) = false := by rw [hk]; rfl
  have q9 : (r.kind == 9) = false := by rw [hk]; rfl
  clear hk hd hS
  have CI := Lib.hid (fun w => iInRange_c v.num 0 0 w)
  unfold vdesc at *
  generalize v.bytes.length = nb at *
  generalize v.items.length = nm at *
  generalize v.num = num at *
  cases z1 : (decide ((0 : Int) ≤ num) && decide (num ≤ 0))
  · rw [z1] at CI
    go_enter Tryz.func97, Tryz.ntmps97
    go_wp2_with fail
    refine (CI.out _).mono ?_; rintro _ w2 ⟨rfl, ew2⟩
    go_wp2
    go_ret
    exact ⟨ret_bool (by first | rfl | (simp; done) | (simp [*]; done) | (simp; omega)), eb.trans ew2⟩
  · rw [z1] at CI
    cases ynb : decide ((nb : Int) ≤ 400)
    · have xynb : decide (nb ≤ 400) = false := by rw [← ynb]; exact (dec_le _ _).symm
      go_enter Tryz.func97, Tryz.ntmps97
      go_wp2_with fail
      refine (CI.out _).mono ?_; rintro _ w2 ⟨rfl, ew2⟩
      go_wp2
      go_ret
      exact ⟨ret_bool (by first | rfl | (simp; done) | (simp [*]; done) | (simp; omega)), eb.trans ew2⟩
    · have xynb : decide (nb ≤ 400) = true := by rw [← ynb]; exact (dec_le _ _).symm
      by_cases hnm : nm = 0
      · subst hnm
        go_enter Tryz.func97, Tryz.ntmps97
        go_wp2_with fail
        refine (CI.out _).mono ?_; rintro _ w2 ⟨rfl, ew2⟩
        go_wp2
        go_ret
        exact ⟨ret_bool (by first | rfl | (simp; done) | (simp [*]; done) | (simp; omega)), eb.trans ew2⟩
      · have dnm : decide ((nm : Int) ≤ 0) = false := decide_eq_false (by omega)
        go_enter Tryz.func97, Tryz.ntmps97
        go_wp2_with fail
        refine (CI.out _).mono ?_; rintro _ w2 ⟨rfl, ew2⟩
        go_wp2
        go_ret
        exact ⟨ret_bool (by first | rfl | (simp; done) | (simp [*]; done) | (simp; omega)), eb.trans ew2⟩
set_option maxRecDepth 100000 in
set_option maxHeartbeats 4000000 in
theorem iFit_5 (A : Option Addr) (ds : List DRule) (c : Nat) (i : Nat) (hi : i < ds.length) (v : DVal) (Vb : Option Addr) (vb : Nat) (Vi : Option Addr) (vi : Nat) (g off : Nat) (w : World) (hd : RdD w A ds c) (hv : ValAt w g off v (.slice Vb v.bytes.length vb) (.slice Vi v.items.length vi)) (hb : v.bytes.length ≤ 9223372036854775807) (hm : v.items.length ≤ 9223372036854775807) (hk : ds[i].kind = 5) (hkl : 0 < ds[i].kids.length) :
    Gives Tryz.prog 97 #[vdesc (.slice A ds.length c), .int .i64 (i : Int), .pointer (some ⟨g, off, none⟩)] w (.bool (fitV ds ds[i] v.num v.bytes.length v.items.length)) := by
  have HE := Lib.hid (fit_5 ds i hi v hk)
  rw [HE.out]; clear HE
  have hl := hd.len
  have HD := Lib.hid hd
  obtain ⟨b, ro, Ab, cb, An, cn, At, ct, Ak, ck, hA, hbb, hS, hR⟩ := hd.at i hi
  subst hA
  have eb := Ext_alloc (.cells #[.slice (some ⟨b, ro, none⟩) ds.length c] 35) (Ext.refl w)
  have BX := fun w' (e : Ext (w.alloc (.cells #[.slice (some ⟨b, ro, none⟩) ds.length c] 35)) w') => boxed e 0
  simp only [List.getElem?_toArray, List.getElem?_cons_zero] at BX
  have hlk := hS.k.len
  obtain ⟨bk, ok, hAk, hbk, hck⟩ := hS.k.at 0 hkl
  subst hAk
  simp only [Nat.add_zero] at hck
  replace hck := fun w' (e : Ext (w.alloc (.cells #[.slice (some ⟨b, ro, none⟩) ds.length c] 35)) w') => hck w' (eb.trans e)
  have hg0 : ds[i].kids.getD 0 0 = ds[i].kids[0] := by simp [hkl]
  rw [hg0]
  generalize ds[i].kids[0] = kz at *
  have CL := Lib.hid (fun w h => iLimit_c (some ⟨b, ro, none⟩) ds c kz w h)
  have hkl2 : (0 : Int) < (ds[i].kids.length : Int) := by omega
  generalize limD ds kz = L at *
  have CM := Lib.hid (fun w => iMin_c 40 L w)
  generalize (if L < 40 then L else 40) = M at *
  obtain ⟨k0, k1, k2, k3, k4, k5, k6, k7⟩ := hR
  replace k0 := fun w' (e : Ext (w.alloc (.cells #[.slice (some ⟨b, ro, none⟩) ds.length c] 35)) w') => k0 w' (eb.trans e)
  replace k1 := fun w' (e : Ext (w.alloc (.cells #[.slice (some ⟨b, ro, none⟩) ds.length c] 35)) w') => k1 w' (eb.trans e)
  replace k2 := fun w' (e : Ext (w.alloc (.cells #[.slice (some ⟨b, ro, none⟩) ds.length c] 35)) w') => k2 w' (eb.trans e)
  replace k3 := fun w' (e : Ext (w.alloc (.cells #[.slice (some ⟨b, ro, none⟩) ds.length c] 35)) w') => k3 w' (eb.trans e)
  replace k4 := fun w' (e : Ext (w.alloc (.cells #[.slice (some ⟨b, ro, none⟩) ds.length c] 35)) w') => k4 w' (eb.trans e)
  replace k5 := fun w' (e : Ext (w.alloc (.cells #[.slice (some ⟨b, ro, none⟩) ds.length c] 35)) w') => k5 w' (eb.trans e)
  replace k6 := fun w' (e : Ext (w.alloc (.cells #[.slice (some ⟨b, ro, none⟩) ds.length c] 35)) w') => k6 w' (eb.trans e)
  replace k7 := fun w' (e : Ext (w.alloc (.cells #[.slice (some ⟨b, ro, none⟩) ds.length c] 35)) w') => k7 w' (eb.trans e)
  obtain ⟨v0, v1, v2⟩ := hv
  replace v0 := fun w' (e : Ext (w.alloc (.cells #[.slice (some ⟨b, ro, none⟩) ds.length c] 35)) w') => v0 w' (eb.trans e)
  replace v1 := fun w' (e : Ext (w.alloc (.cells #[.slice (some ⟨b, ro, none⟩) ds.length c] 35)) w') => v1 w' (eb.trans e)
  replace v2 := fun w' (e : Ext (w.alloc (.cells #[.slice (some ⟨b, ro, none⟩) ds.length c] 35)) w') => v2 w' (eb.trans e)
  generalize ds[i] = r at *
  have q1 : (r.kind == 1) = false := by rw [hk]; rfl
  have q3 : (r.kind == 3) = false := by rw [hk]; rfl
  have q4 : (r.kind == 4) = false := by rw [hk]; rfl
  have q10 : (r.kind == 10) = false := by rw [hk]; rfl
  have q5 : (r.kind == 5) = true := by rw [hk]; rfl
  have q6 : (r.kind == 6) = false := by rw [hk]; rfl
  have q7 : (r.kind == 7) = false := by rw [hk]; rfl
  have q8 : (r.kind == 8) = false := by rw [hk]; rfl
  have q9 : (r.kind == 9) = false := by rw [hk]; rfl
  clear hk hd hS
  have CI := Lib.hid (fun w => iInRange_c v.num 0 0 w)
  unfold vdesc at *
  generalize v.bytes.length = nb at *
  generalize v.items.length = nm at *
  generalize v.num = num at *
  cases z1 : (decide ((0 : Int) ≤ num) && decide (num ≤ 0))
  · rw [z1] at CI
    go_enter Tryz.func97, Tryz.ntmps97
    go_wp2_with fail
    refine wp_region_quiet_below (by kernel_rfl) (by kernel_rfl) ?_
    repeat (go_big_quiet_step ((first | (go_at_call 127; exact Calls.regrown_of (CL.out _ (HD.out.ext (eb.trans (by first | assumption | exact Ext_regrown _ _ (Ext.refl _)))))) | (go_at_call 128; exact Calls.regrown_of (CM.out _)))))
    refine wpQuiet_nil ?_
    rintro w1 ⟨⟨nq, osq⟩, hq⟩
    have ew1 := ext_of_q hq
    clear hq nq osq
    go_wp2_with fail
    refine (CI.out _).mono ?_; rintro _ w2 ⟨rfl, ew2⟩
    have ew3 := ew1.trans ew2
    go_wp2
    go_ret
    exact ⟨ret_bool (by first | rfl | (simp; done) | (simp [*]; done) | (simp; omega)), eb.trans ew3⟩
  · rw [z1] at CI
    by_cases hnb : nb = 0
    · subst hnb
      cases ynm : decide ((nm : Int) ≤ M)
      · skip
        go_enter Tryz.func97, Tryz.ntmps97
        go_wp2_with fail
        refine wp_region_quiet_below (by kernel_rfl) (by kernel_rfl) ?_
        repeat (go_big_quiet_step ((first | (go_at_call 127; exact Calls.regrown_of (CL.out _ (HD.out.ext (eb.trans (by first | assumption | exact Ext_regrown _ _ (Ext.refl _)))))) | (go_at_call 128; exact Calls.regrown_of (CM.out _)))))
        refine wpQuiet_nil ?_
        rintro w1 ⟨⟨nq, osq⟩, hq⟩
        have ew1 := ext_of_q hq
        clear hq nq osq
        go_wp2_with fail
        refine (CI.out _).mono ?_; rintro _ w2 ⟨rfl, ew2⟩
        have ew3 := ew1.trans ew2
        go_wp2
        go_ret
        exact ⟨ret_bool (by first | rfl | (simp; done) | (simp [*]; done) | (simp; omega)), eb.trans ew3⟩
      · skip
        go_enter Tryz.func97, Tryz.ntmps97
        go_wp2_with fail
        refine wp_region_quiet_below (by kernel_rfl) (by kernel_rfl) ?_
        repeat (go_big_quiet_step ((first | (go_at_call 127; exact Calls.regrown_of (CL.out _ (HD.out.ext (eb.trans (by first | assumption | exact Ext_regrown _ _ (Ext.refl _)))))) | (go_at_call 128; exact Calls.regrown_of (CM.out _)))))
        refine wpQuiet_nil ?_
        rintro w1 ⟨⟨nq, osq⟩, hq⟩
        have ew1 := ext_of_q hq
        clear hq nq osq
        go_wp2_with fail
        refine (CI.out _).mono ?_; rintro _ w2 ⟨rfl, ew2⟩
        have ew3 := ew1.trans ew2
        go_wp2
        go_ret
        exact ⟨ret_bool (by first | rfl | (simp; done) | (simp [*]; done) | (simp; omega)), eb.trans ew3⟩
    · have dnb : decide ((nb : Int) ≤ 0) = false := decide_eq_false (by omega)
      go_enter Tryz.func97, Tryz.ntmps97
      go_wp2_with fail
      refine wp_region_quiet_below (by kernel_rfl) (by kernel_rfl) ?_
      repeat (go_big_quiet_step ((first | (go_at_call 127; exact Calls.regrown_of (CL.out _ (HD.out.ext (eb.trans (by first | assumption | exact Ext_regrown _ _ (Ext.refl _)))))) | (go_at_call 128; exact Calls.regrown_of (CM.out _)))))
      refine wpQuiet_nil ?_
      rintro w1 ⟨⟨nq, osq⟩, hq⟩
      have ew1 := ext_of_q hq
      clear hq nq osq
      go_wp2_with fail
      refine (CI.out _).mono ?_; rintro _ w2 ⟨rfl, ew2⟩
      have ew3 := ew1.trans ew2
      go_wp2
      go_ret
      exact ⟨ret_bool (by first | rfl | (simp; done) | (simp [*]; done) | (simp; omega)), eb.trans ew3⟩
set_option maxRecDepth 100000 in
set_option maxHeartbeats 4000000 in
theorem iFit_6 (A : Option Addr) (ds : List DRule) (c : Nat) (i : Nat) (hi : i < ds.length) (v : DVal) (Vb : Option Addr) (vb : Nat) (Vi : Option Addr) (vi : Nat) (g off : Nat) (w : World) (hd : RdD w A ds c) (hv : ValAt w g off v (.slice Vb v.bytes.length vb) (.slice Vi v.items.length vi)) (hb : v.bytes.length ≤ 9223372036854775807) (hm : v.items.length ≤ 9223372036854775807) (hk : ds[i].kind = 6) :
    Gives Tryz.prog 97 #[vdesc (.slice A ds.length c), .int .i64 (i : Int), .pointer (some ⟨g, off, none⟩)] w (.bool (fitV ds ds[i] v.num v.bytes.length v.items.length)) := by
  have HE := Lib.hid (fit_6 ds i hi v hk)
  rw [HE.out]; clear HE
  have hl := hd.len
  have HD := Lib.hid hd
  obtain ⟨b, ro, Ab, cb, An, cn, At, ct, Ak, ck, hA, hbb, hS, hR⟩ := hd.at i hi
  subst hA
  have eb := Ext_alloc (.cells #[.slice (some ⟨b, ro, none⟩) ds.length c] 35) (Ext.refl w)
  have BX := fun w' (e : Ext (w.alloc (.cells #[.slice (some ⟨b, ro, none⟩) ds.length c] 35)) w') => boxed e 0
  simp only [List.getElem?_toArray, List.getElem?_cons_zero] at BX
  have hlk := hS.k.len
  obtain ⟨k0, k1, k2, k3, k4, k5, k6, k7⟩ := hR
  replace k0 := fun w' (e : Ext (w.alloc (.cells #[.slice (some ⟨b, ro, none⟩) ds.length c] 35)) w') => k0 w' (eb.trans e)
  replace k1 := fun w' (e : Ext (w.alloc (.cells #[.slice (some ⟨b, ro, none⟩) ds.length c] 35)) w') => k1 w' (eb.trans e)
  replace k2 := fun w' (e : Ext (w.alloc (.cells #[.slice (some ⟨b, ro, none⟩) ds.length c] 35)) w') => k2 w' (eb.trans e)
  replace k3 := fun w' (e : Ext (w.alloc (.cells #[.slice (some ⟨b, ro, none⟩) ds.length c] 35)) w') => k3 w' (eb.trans e)
  replace k4 := fun w' (e : Ext (w.alloc (.cells #[.slice (some ⟨b, ro, none⟩) ds.length c] 35)) w') => k4 w' (eb.trans e)
  replace k5 := fun w' (e : Ext (w.alloc (.cells #[.slice (some ⟨b, ro, none⟩) ds.length c] 35)) w') => k5 w' (eb.trans e)
  replace k6 := fun w' (e : Ext (w.alloc (.cells #[.slice (some ⟨b, ro, none⟩) ds.length c] 35)) w') => k6 w' (eb.trans e)
  replace k7 := fun w' (e : Ext (w.alloc (.cells #[.slice (some ⟨b, ro, none⟩) ds.length c] 35)) w') => k7 w' (eb.trans e)
  obtain ⟨v0, v1, v2⟩ := hv
  replace v0 := fun w' (e : Ext (w.alloc (.cells #[.slice (some ⟨b, ro, none⟩) ds.length c] 35)) w') => v0 w' (eb.trans e)
  replace v1 := fun w' (e : Ext (w.alloc (.cells #[.slice (some ⟨b, ro, none⟩) ds.length c] 35)) w') => v1 w' (eb.trans e)
  replace v2 := fun w' (e : Ext (w.alloc (.cells #[.slice (some ⟨b, ro, none⟩) ds.length c] 35)) w') => v2 w' (eb.trans e)
  generalize ds[i] = r at *
  have q1 : (r.kind == 1) = false := by rw [hk]; rfl
  have q3 : (r.kind == 3) = false := by rw [hk]; rfl
  have q4 : (r.kind == 4) = false := by rw [hk]; rfl
  have q10 : (r.kind == 10) = false := by rw [hk]; rfl
  have q5 : (r.kind == 5) = false := by rw [hk]; rfl
  have q6 : (r.kind == 6) = true := by rw [hk]; rfl
  have q7 : (r.kind == 7) = false := by rw [hk]; rfl
  have q8 : (r.kind == 8) = false := by rw [hk]; rfl
  have q9 : (r.kind == 9) = false := by rw [hk]; rfl
  clear hk hd hS
  have CI := Lib.hid (fun w => iInRange_c v.num 0 0 w)
  unfold vdesc at *
  generalize v.bytes.length = nb at *
  generalize v.items.length = nm at *
  generalize v.num = num at *
  cases z0 : ((nm : Int) != (r.kids.length : Int))
  · skip
    cases z1 : (decide ((0 : Int) ≤ num) && decide (num ≤ 0))
    · rw [z1] at CI
      go_enter Tryz.func97, Tryz.ntmps97
      go_wp2_with fail
      refine (CI.out _).mono ?_; rintro _ w2 ⟨rfl, ew2⟩
      go_wp2
      go_ret
      exact ⟨ret_bool (by first | rfl | (simp; done) | (simp [*]; done) | (simp; omega)), eb.trans ew2⟩
    · rw [z1] at CI
      by_cases hnb : nb = 0
      · subst hnb
        cases ynm : decide ((nm : Int) ≤ (r.kids.length : Int))
        · have xynm : decide (nm ≤ r.kids.length) = false := by rw [← ynm]; exact (dec_le _ _).symm
          go_enter Tryz.func97, Tryz.ntmps97
          go_wp2_with fail
          refine (CI.out _).mono ?_; rintro _ w2 ⟨rfl, ew2⟩
          go_wp2
          go_ret
          exact ⟨ret_bool (by first | rfl | (simp; done) | (simp [*]; done) | (simp; omega)), eb.trans ew2⟩
        · have xynm : decide (nm ≤ r.kids.length) = true := by rw [← ynm]; exact (dec_le _ _).symm
          go_enter Tryz.func97, Tryz.ntmps97
          go_wp2_with fail
          refine (CI.out _).mono ?_; rintro _ w2 ⟨rfl, ew2⟩
          go_wp2
          go_ret
          exact ⟨ret_bool (by first | rfl | (simp; done) | (simp [*]; done) | (simp; omega)), eb.trans ew2⟩
      · have dnb : decide ((nb : Int) ≤ 0) = false := decide_eq_false (by omega)
        go_enter Tryz.func97, Tryz.ntmps97
        go_wp2_with fail
        refine (CI.out _).mono ?_; rintro _ w2 ⟨rfl, ew2⟩
        go_wp2
        go_ret
        exact ⟨ret_bool (by first | rfl | (simp; done) | (simp [*]; done) | (simp; omega)), eb.trans ew2⟩
  · skip
    go_enter Tryz.func97, Tryz.ntmps97
    go_wp2_with fail
    go_wp2
    go_ret
    exact ⟨ret_bool (by first | rfl | (simp; done) | (simp [*]; done) | (simp; omega)), eb⟩
set_option maxRecDepth 100000 in
set_option maxHeartbeats 4000000 in
theorem iFit_7 (A : Option Addr) (ds : List DRule) (c : Nat) (i : Nat) (hi : i < ds.length) (v : DVal) (Vb : Option Addr) (vb : Nat) (Vi : Option Addr) (vi : Nat) (g off : Nat) (w : World) (hd : RdD w A ds c) (hv : ValAt w g off v (.slice Vb v.bytes.length vb) (.slice Vi v.items.length vi)) (hb : v.bytes.length ≤ 9223372036854775807) (hm : v.items.length ≤ 9223372036854775807) (hk : ds[i].kind = 7) (hkl : 0 < ds[i].kids.length) :
    Gives Tryz.prog 97 #[vdesc (.slice A ds.length c), .int .i64 (i : Int), .pointer (some ⟨g, off, none⟩)] w (.bool (fitV ds ds[i] v.num v.bytes.length v.items.length)) := by
  have HE := Lib.hid (fit_7 ds i hi v hk)
  rw [HE.out]; clear HE
  have hl := hd.len
  have HD := Lib.hid hd
  obtain ⟨b, ro, Ab, cb, An, cn, At, ct, Ak, ck, hA, hbb, hS, hR⟩ := hd.at i hi
  subst hA
  have eb := Ext_alloc (.cells #[.slice (some ⟨b, ro, none⟩) ds.length c] 35) (Ext.refl w)
  have BX := fun w' (e : Ext (w.alloc (.cells #[.slice (some ⟨b, ro, none⟩) ds.length c] 35)) w') => boxed e 0
  simp only [List.getElem?_toArray, List.getElem?_cons_zero] at BX
  have hlk := hS.k.len
  obtain ⟨bk, ok, hAk, hbk, hck⟩ := hS.k.at 0 hkl
  subst hAk
  simp only [Nat.add_zero] at hck
  replace hck := fun w' (e : Ext (w.alloc (.cells #[.slice (some ⟨b, ro, none⟩) ds.length c] 35)) w') => hck w' (eb.trans e)
  have hg0 : ds[i].kids.getD 0 0 = ds[i].kids[0] := by simp [hkl]
  rw [hg0]
  generalize ds[i].kids[0] = kz at *
  have CL := Lib.hid (fun w h => iLimit_c (some ⟨b, ro, none⟩) ds c kz w h)
  have hkl2 : (0 : Int) < (ds[i].kids.length : Int) := by omega
  generalize limD ds kz = L at *
  obtain ⟨k0, k1, k2, k3, k4, k5, k6, k7⟩ := hR
  replace k0 := fun w' (e : Ext (w.alloc (.cells #[.slice (some ⟨b, ro, none⟩) ds.length c] 35)) w') => k0 w' (eb.trans e)
  replace k1 := fun w' (e : Ext (w.alloc (.cells #[.slice (some ⟨b, ro, none⟩) ds.length c] 35)) w') => k1 w' (eb.trans e)
  replace k2 := fun w' (e : Ext (w.alloc (.cells #[.slice (some ⟨b, ro, none⟩) ds.length c] 35)) w') => k2 w' (eb.trans e)
  replace k3 := fun w' (e : Ext (w.alloc (.cells #[.slice (some ⟨b, ro, none⟩) ds.length c] 35)) w') => k3 w' (eb.trans e)
  replace k4 := fun w' (e : Ext (w.alloc (.cells #[.slice (some ⟨b, ro, none⟩) ds.length c] 35)) w') => k4 w' (eb.trans e)
  replace k5 := fun w' (e : Ext (w.alloc (.cells #[.slice (some ⟨b, ro, none⟩) ds.length c] 35)) w') => k5 w' (eb.trans e)
  replace k6 := fun w' (e : Ext (w.alloc (.cells #[.slice (some ⟨b, ro, none⟩) ds.length c] 35)) w') => k6 w' (eb.trans e)
  replace k7 := fun w' (e : Ext (w.alloc (.cells #[.slice (some ⟨b, ro, none⟩) ds.length c] 35)) w') => k7 w' (eb.trans e)
  obtain ⟨v0, v1, v2⟩ := hv
  replace v0 := fun w' (e : Ext (w.alloc (.cells #[.slice (some ⟨b, ro, none⟩) ds.length c] 35)) w') => v0 w' (eb.trans e)
  replace v1 := fun w' (e : Ext (w.alloc (.cells #[.slice (some ⟨b, ro, none⟩) ds.length c] 35)) w') => v1 w' (eb.trans e)
  replace v2 := fun w' (e : Ext (w.alloc (.cells #[.slice (some ⟨b, ro, none⟩) ds.length c] 35)) w') => v2 w' (eb.trans e)
  generalize ds[i] = r at *
  have q1 : (r.kind == 1) = false := by rw [hk]; rfl
  have q3 : (r.kind == 3) = false := by rw [hk]; rfl
  have q4 : (r.kind == 4) = false := by rw [hk]; rfl
  have q10 : (r.kind == 10) = false := by rw [hk]; rfl
  have q5 : (r.kind == 5) = false := by rw [hk]; rfl
  have q6 : (r.kind == 6) = false := by rw [hk]; rfl
  have q7 : (r.kind == 7) = true := by rw [hk]; rfl
  have q8 : (r.kind == 8) = false := by rw [hk]; rfl
  have q9 : (r.kind == 9) = false := by rw [hk]; rfl
  clear hk hd hS
  have CI := Lib.hid (fun w => iInRange_c v.num 0 L w)
  unfold vdesc at *
  generalize v.bytes.length = nb at *
  generalize v.items.length = nm at *
  generalize v.num = num at *
  by_cases h0 : nm = 1
  · subst h0
    cases z1 : (decide ((0 : Int) ≤ num) && decide (num ≤ L))
    · rw [z1] at CI
      go_enter Tryz.func97, Tryz.ntmps97
      go_wp2_with fail
      refine wp_region_quiet_below (by kernel_rfl) (by kernel_rfl) ?_
      repeat (go_big_quiet_step ((go_at_call 127; exact Calls.regrown_of (CL.out _ (HD.out.ext (eb.trans (by first | assumption | exact Ext_regrown _ _ (Ext.refl _))))))))
      refine wpQuiet_nil ?_
      rintro w1 ⟨⟨nq, osq⟩, hq⟩
      have ew1 := ext_of_q hq
      clear hq nq osq
      go_wp2_with fail
      refine (CI.out _).mono ?_; rintro _ w2 ⟨rfl, ew2⟩
      have ew3 := ew1.trans ew2
      go_wp2
      go_ret
      exact ⟨ret_bool (by first | rfl | (simp; done) | (simp [*]; done) | (simp; omega)), eb.trans ew3⟩
    · rw [z1] at CI
      by_cases hnb : nb = 0
      · subst hnb
        go_enter Tryz.func97, Tryz.ntmps97
        go_wp2_with fail
        refine wp_region_quiet_below (by kernel_rfl) (by kernel_rfl) ?_
        repeat (go_big_quiet_step ((go_at_call 127; exact Calls.regrown_of (CL.out _ (HD.out.ext (eb.trans (by first | assumption | exact Ext_regrown _ _ (Ext.refl _))))))))
        refine wpQuiet_nil ?_
        rintro w1 ⟨⟨nq, osq⟩, hq⟩
        have ew1 := ext_of_q hq
        clear hq nq osq
        go_wp2_with fail
        refine (CI.out _).mono ?_; rintro _ w2 ⟨rfl, ew2⟩
        have ew3 := ew1.trans ew2
        go_wp2
        go_ret
        exact ⟨ret_bool (by first | rfl | (simp; done) | (simp [*]; done) | (simp; omega)), eb.trans ew3⟩
      · have dnb : decide ((nb : Int) ≤ 0) = false := decide_eq_false (by omega)
        go_enter Tryz.func97, Tryz.ntmps97
        go_wp2_with fail
        refine wp_region_quiet_below (by kernel_rfl) (by kernel_rfl) ?_
        repeat (go_big_quiet_step ((go_at_call 127; exact Calls.regrown_of (CL.out _ (HD.out.ext (eb.trans (by first | assumption | exact Ext_regrown _ _ (Ext.refl _))))))))
        refine wpQuiet_nil ?_
        rintro w1 ⟨⟨nq, osq⟩, hq⟩
        have ew1 := ext_of_q hq
        clear hq nq osq
        go_wp2_with fail
        refine (CI.out _).mono ?_; rintro _ w2 ⟨rfl, ew2⟩
        have ew3 := ew1.trans ew2
        go_wp2
        go_ret
        exact ⟨ret_bool (by first | rfl | (simp; done) | (simp [*]; done) | (simp; omega)), eb.trans ew3⟩
  · have hne : ((nm : Int) != 1) = true := by simp; omega
    go_enter Tryz.func97, Tryz.ntmps97
    go_wp2_with fail
    refine wp_region_quiet_below (by kernel_rfl) (by kernel_rfl) ?_
    repeat (go_big_quiet_step ((go_at_call 127; exact Calls.regrown_of (CL.out _ (HD.out.ext (eb.trans (by first | assumption | exact Ext_regrown _ _ (Ext.refl _))))))))
    refine wpQuiet_nil ?_
    rintro w1 ⟨⟨nq, osq⟩, hq⟩
    have ew1 := ext_of_q hq
    clear hq nq osq
    go_wp2
    go_ret
    exact ⟨ret_bool (by first | rfl | (simp; done) | (simp [*]; done) | (simp; omega)), (eb.trans ew1)⟩
set_option maxRecDepth 100000 in
set_option maxHeartbeats 4000000 in
theorem iFit_8 (A : Option Addr) (ds : List DRule) (c : Nat) (i : Nat) (hi : i < ds.length) (v : DVal) (Vb : Option Addr) (vb : Nat) (Vi : Option Addr) (vi : Nat) (g off : Nat) (w : World) (hd : RdD w A ds c) (hv : ValAt w g off v (.slice Vb v.bytes.length vb) (.slice Vi v.items.length vi)) (hb : v.bytes.length ≤ 9223372036854775807) (hm : v.items.length ≤ 9223372036854775807) (hk : ds[i].kind = 8) :
    Gives Tryz.prog 97 #[vdesc (.slice A ds.length c), .int .i64 (i : Int), .pointer (some ⟨g, off, none⟩)] w (.bool (fitV ds ds[i] v.num v.bytes.length v.items.length)) := by
  have HE := Lib.hid (fit_8 ds i hi v hk)
  rw [HE.out]; clear HE
  have hl := hd.len
  have HD := Lib.hid hd
  obtain ⟨b, ro, Ab, cb, An, cn, At, ct, Ak, ck, hA, hbb, hS, hR⟩ := hd.at i hi
  subst hA
  have eb := Ext_alloc (.cells #[.slice (some ⟨b, ro, none⟩) ds.length c] 35) (Ext.refl w)
  have BX := fun w' (e : Ext (w.alloc (.cells #[.slice (some ⟨b, ro, none⟩) ds.length c] 35)) w') => boxed e 0
  simp only [List.getElem?_toArray, List.getElem?_cons_zero] at BX
  have hlk := hS.k.len
  obtain ⟨k0, k1, k2, k3, k4, k5, k6, k7⟩ := hR
  replace k0 := fun w' (e : Ext (w.alloc (.cells #[.slice (some ⟨b, ro, none⟩) ds.length c] 35)) w') => k0 w' (eb.trans e)
  replace k1 := fun w' (e : Ext (w.alloc (.cells #[.slice (some ⟨b, ro, none⟩) ds.length c] 35)) w') => k1 w' (eb.trans e)
  replace k2 := fun w' (e : Ext (w.alloc (.cells #[.slice (some ⟨b, ro, none⟩) ds.length c] 35)) w') => k2 w' (eb.trans e)
  replace k3 := fun w' (e : Ext (w.alloc (.cells #[.slice (some ⟨b, ro, none⟩) ds.length c] 35)) w') => k3 w' (eb.trans e)
  replace k4 := fun w' (e : Ext (w.alloc (.cells #[.slice (some ⟨b, ro, none⟩) ds.length c] 35)) w') => k4 w' (eb.trans e)
  replace k5 := fun w' (e : Ext (w.alloc (.cells #[.slice (some ⟨b, ro, none⟩) ds.length c] 35)) w') => k5 w' (eb.trans e)
  replace k6 := fun w' (e : Ext (w.alloc (.cells #[.slice (some ⟨b, ro, none⟩) ds.length c] 35)) w') => k6 w' (eb.trans e)
  replace k7 := fun w' (e : Ext (w.alloc (.cells #[.slice (some ⟨b, ro, none⟩) ds.length c] 35)) w') => k7 w' (eb.trans e)
  obtain ⟨v0, v1, v2⟩ := hv
  replace v0 := fun w' (e : Ext (w.alloc (.cells #[.slice (some ⟨b, ro, none⟩) ds.length c] 35)) w') => v0 w' (eb.trans e)
  replace v1 := fun w' (e : Ext (w.alloc (.cells #[.slice (some ⟨b, ro, none⟩) ds.length c] 35)) w') => v1 w' (eb.trans e)
  replace v2 := fun w' (e : Ext (w.alloc (.cells #[.slice (some ⟨b, ro, none⟩) ds.length c] 35)) w') => v2 w' (eb.trans e)
  generalize ds[i] = r at *
  have q1 : (r.kind == 1) = false := by rw [hk]; rfl
  have q3 : (r.kind == 3) = false := by rw [hk]; rfl
  have q4 : (r.kind == 4) = false := by rw [hk]; rfl
  have q10 : (r.kind == 10) = false := by rw [hk]; rfl
  have q5 : (r.kind == 5) = false := by rw [hk]; rfl
  have q6 : (r.kind == 6) = false := by rw [hk]; rfl
  have q7 : (r.kind == 7) = false := by rw [hk]; rfl
  have q8 : (r.kind == 8) = true := by rw [hk]; rfl
  have q9 : (r.kind == 9) = false := by rw [hk]; rfl
  clear hk hd hS
  have CI := Lib.hid (fun w => iInRange_c v.num 0 0 w)
  unfold vdesc at *
  generalize v.bytes.length = nb at *
  generalize v.items.length = nm at *
  generalize v.num = num at *
  cases z1 : (decide ((0 : Int) ≤ num) && decide (num ≤ 0))
  · rw [z1] at CI
    go_enter Tryz.func97, Tryz.ntmps97
    go_wp2_with fail
    refine (CI.out _).mono ?_; rintro _ w2 ⟨rfl, ew2⟩
    go_wp2
    go_ret
    exact ⟨ret_bool (by first | rfl | (simp; done) | (simp [*]; done) | (simp; omega)), eb.trans ew2⟩
  · rw [z1] at CI
    by_cases hnb : nb = 0
    · subst hnb
      cases ynm : decide ((nm : Int) ≤ 1)
      · have xynm : decide (nm ≤ 1) = false := by rw [← ynm]; exact (dec_le _ _).symm
        go_enter Tryz.func97, Tryz.ntmps97
        go_wp2_with fail
        refine (CI.out _).mono ?_; rintro _ w2 ⟨rfl, ew2⟩
        go_wp2
        go_ret
        exact ⟨ret_bool (by first | rfl | (simp; done) | (simp [*]; done) | (simp; omega)), eb.trans ew2⟩
      · have xynm : decide (nm ≤ 1) = true := by rw [← ynm]; exact (dec_le _ _).symm
        go_enter Tryz.func97, Tryz.ntmps97
        go_wp2_with fail
        refine (CI.out _).mono ?_; rintro _ w2 ⟨rfl, ew2⟩
        go_wp2
        go_ret
        exact ⟨ret_bool (by first | rfl | (simp; done) | (simp [*]; done) | (simp; omega)), eb.trans ew2⟩
    · have dnb : decide ((nb : Int) ≤ 0) = false := decide_eq_false (by omega)
      go_enter Tryz.func97, Tryz.ntmps97
      go_wp2_with fail
      refine (CI.out _).mono ?_; rintro _ w2 ⟨rfl, ew2⟩
      go_wp2
      go_ret
      exact ⟨ret_bool (by first | rfl | (simp; done) | (simp [*]; done) | (simp; omega)), eb.trans ew2⟩
set_option maxRecDepth 100000 in
set_option maxHeartbeats 4000000 in
theorem iFit_9 (A : Option Addr) (ds : List DRule) (c : Nat) (i : Nat) (hi : i < ds.length) (v : DVal) (Vb : Option Addr) (vb : Nat) (Vi : Option Addr) (vi : Nat) (g off : Nat) (w : World) (hd : RdD w A ds c) (hv : ValAt w g off v (.slice Vb v.bytes.length vb) (.slice Vi v.items.length vi)) (hb : v.bytes.length ≤ 9223372036854775807) (hm : v.items.length ≤ 9223372036854775807) (hk : ds[i].kind = 9) :
    Gives Tryz.prog 97 #[vdesc (.slice A ds.length c), .int .i64 (i : Int), .pointer (some ⟨g, off, none⟩)] w (.bool (fitV ds ds[i] v.num v.bytes.length v.items.length)) := by
  have HE := Lib.hid (fit_9 ds i hi v hk)
  rw [HE.out]; clear HE
  have hl := hd.len
  have HD := Lib.hid hd
  obtain ⟨b, ro, Ab, cb, An, cn, At, ct, Ak, ck, hA, hbb, hS, hR⟩ := hd.at i hi
  subst hA
  have eb := Ext_alloc (.cells #[.slice (some ⟨b, ro, none⟩) ds.length c] 35) (Ext.refl w)
  have BX := fun w' (e : Ext (w.alloc (.cells #[.slice (some ⟨b, ro, none⟩) ds.length c] 35)) w') => boxed e 0
  simp only [List.getElem?_toArray, List.getElem?_cons_zero] at BX
  have hlk := hS.k.len
  obtain ⟨k0, k1, k2, k3, k4, k5, k6, k7⟩ := hR
  replace k0 := fun w' (e : Ext (w.alloc (.cells #[.slice (some ⟨b, ro, none⟩) ds.length c] 35)) w') => k0 w' (eb.trans e)
  replace k1 := fun w' (e : Ext (w.alloc (.cells #[.slice (some ⟨b, ro, none⟩) ds.length c] 35)) w') => k1 w' (eb.trans e)
  replace k2 := fun w' (e : Ext (w.alloc (.cells #[.slice (some ⟨b, ro, none⟩) ds.length c] 35)) w') => k2 w' (eb.trans e)
  replace k3 := fun w' (e : Ext (w.alloc (.cells #[.slice (some ⟨b, ro, none⟩) ds.length c] 35)) w') => k3 w' (eb.trans e)
  replace k4 := fun w' (e : Ext (w.alloc (.cells #[.slice (some ⟨b, ro, none⟩) ds.length c] 35)) w') => k4 w' (eb.trans e)
  replace k5 := fun w' (e : Ext (w.alloc (.cells #[.slice (some ⟨b, ro, none⟩) ds.length c] 35)) w') => k5 w' (eb.trans e)
  replace k6 := fun w' (e : Ext (w.alloc (.cells #[.slice (some ⟨b, ro, none⟩) ds.length c] 35)) w') => k6 w' (eb.trans e)
  replace k7 := fun w' (e : Ext (w.alloc (.cells #[.slice (some ⟨b, ro, none⟩) ds.length c] 35)) w') => k7 w' (eb.trans e)
  obtain ⟨v0, v1, v2⟩ := hv
  replace v0 := fun w' (e : Ext (w.alloc (.cells #[.slice (some ⟨b, ro, none⟩) ds.length c] 35)) w') => v0 w' (eb.trans e)
  replace v1 := fun w' (e : Ext (w.alloc (.cells #[.slice (some ⟨b, ro, none⟩) ds.length c] 35)) w') => v1 w' (eb.trans e)
  replace v2 := fun w' (e : Ext (w.alloc (.cells #[.slice (some ⟨b, ro, none⟩) ds.length c] 35)) w') => v2 w' (eb.trans e)
  generalize ds[i] = r at *
  have q1 : (r.kind == 1) = false := by rw [hk]; rfl
  have q3 : (r.kind == 3) = false := by rw [hk]; rfl
  have q4 : (r.kind == 4) = false := by rw [hk]; rfl
  have q10 : (r.kind == 10) = false := by rw [hk]; rfl
  have q5 : (r.kind == 5) = false := by rw [hk]; rfl
  have q6 : (r.kind == 6) = false := by rw [hk]; rfl
  have q7 : (r.kind == 7) = false := by rw [hk]; rfl
  have q8 : (r.kind == 8) = false := by rw [hk]; rfl
  have q9 : (r.kind == 9) = true := by rw [hk]; rfl
  clear hk hd hS
  have CI := Lib.hid (fun w => iInRange_c v.num 0 0 w)
  unfold vdesc at *
  generalize v.bytes.length = nb at *
  generalize v.items.length = nm at *
  generalize v.num = num at *
  by_cases h0 : nm = 1
  · subst h0
    cases z1 : (decide ((0 : Int) ≤ num) && decide (num ≤ 0))
    · rw [z1] at CI
      go_enter Tryz.func97, Tryz.ntmps97
      go_wp2_with fail
      refine (CI.out _).mono ?_; rintro _ w2 ⟨rfl, ew2⟩
      go_wp2
      go_ret
      exact ⟨ret_bool (by first | rfl | (simp; done) | (simp [*]; done) | (simp; omega)), eb.trans ew2⟩
    · rw [z1] at CI
      by_cases hnb : nb = 0
      · subst hnb
        go_enter Tryz.func97, Tryz.ntmps97
        go_wp2_with fail
        refine (CI.out _).mono ?_; rintro _ w2 ⟨rfl, ew2⟩
        go_wp2
        go_ret
        exact ⟨ret_bool (by first | rfl | (simp; done) | (simp [*]; done) | (simp; omega)), eb.trans ew2⟩
      · have dnb : decide ((nb : Int) ≤ 0) = false := decide_eq_false (by omega)
        go_enter Tryz.func97, Tryz.ntmps97
        go_wp2_with fail
        refine (CI.out _).mono ?_; rintro _ w2 ⟨rfl, ew2⟩
        go_wp2
        go_ret
        exact ⟨ret_bool (by first | rfl | (simp; done) | (simp [*]; done) | (simp; omega)), eb.trans ew2⟩
  · have hne : ((nm : Int) != 1) = true := by simp; omega
    go_enter Tryz.func97, Tryz.ntmps97
    go_wp2_with fail
    go_wp2
    go_ret
    exact ⟨ret_bool (by first | rfl | (simp; done) | (simp [*]; done) | (simp; omega)), eb⟩
end Go.Proofs.YtjckcbfpejcpcaaGreatDoor
