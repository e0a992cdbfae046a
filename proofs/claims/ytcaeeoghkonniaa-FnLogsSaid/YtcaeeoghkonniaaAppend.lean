/- AppendRecord of the program and of the reference. -/
import Derived.Test.YtcaeeoghkonniaaCrash
namespace Go.Proofs.Ytcaeeoghkonniaa
open Go.RowKit Go.Sort

section
variable {P : Program} {ops : Array Oper} {o : Oper} {a : Act} {Q : Exit → Act → World → Prop} {K : Act → World → Prop} {E : Prop}
/-- append(s, ys...) in a region that draws, with what becomes of the block -/
theorem step_appG (hgd : o.guard = none) (s x : Operand) (t : TypeId) (ho : o.op = .call { callee := .builtin .append, args := #[s, x], argTypes := #[t, t] })
    {e : TypeId} {bytes : Nat} {z : Value} (hE : Elem P t e 1 bytes z) (hby : 1 ≤ bytes) (w0 w : World) {α : Type} (f : α → Value) (hf : ∀ x, (f x).oneCell' = true) (v : Value) (hs : a.eval s = v) (A : Option Addr) (m c : Nat) (hx : a.eval x = .slice A m c)
    (l ys : List α) (hown : OwnL f e w0 w v l) (he : Ext w0 w) (hm : m = ys.length)
    (hA : 0 < ys.length → ∃ ad, A = some ad ∧ ∀ j u, (ys.map f)[j]? = some u → w.cell? (ad.add j) = some u)
    (hb : (l.length + ys.length) * bytes ≤ 140737488355328)
    (h : ∀ v' w', OwnL f e w0 w' v' (l ++ ys) → Ext w0 w' → (v'.ownBlock = v.ownBlock ∨ v'.ownBlock = some w.heap.size) → w.grownBy w' v.ownBlock → K (a.put o.dst v') w') :
    if Region.wanted o (yielded ops a.tmps) = true then Oper.wp P o a w K Q else E := by
  have hw : Region.wanted o (yielded ops a.tmps) = true := by simp [Region.wanted, hgd]
  rw [if_pos hw]
  obtain ⟨i0, hi0, hz0, hz1, hz2⟩ := info_parts hE.hi
  subst hm
  have hfin : ∀ v' w', Own e 1 w0 w' v' (l.length + ys.length) (l.map f ++ ys.map f) → Ext w0 w' → (v'.ownBlock = v.ownBlock ∨ v'.ownBlock = some w.heap.size) → w.grownBy w' v.ownBlock → K (a.put o.dst v') w' := fun v' w' h1 h2 h3 h4 => h v' w' (by simpa [OwnL] using h1) h2 h3 h4
  rcases A with _ | ad
  · have hm0 : ys.length = 0 := by
      rcases Nat.eq_zero_or_pos ys.length with h0 | h0
      · exact h0
      · obtain ⟨ad, h, _⟩ := hA h0
        cases h
    obtain rfl : ys = [] := List.eq_nil_of_length_eq_zero hm0
    unfold Oper.wp execOp
    simp only [ho, resolve, invoke, builtin, Sem.run_bind, Sem.run_pure, Result.andThen_ok, List.map_toArray, List.map_cons, List.map_nil, List.length_nil, hs, hx, run_app_nil w w0.heap.size t o.type e i0 1 hE.ht hi0 v l.length (l.map f) hown c]
    exact hfin v w (by have h' := hown; unfold OwnL at h'; simpa using h') he (.inl rfl) (World.grownBy.refl w _)
  · obtain ⟨v', w', hr, h2, h3, h4, h5⟩ := run_append_own_at (P := P) w w0.heap.size t o.type e i0 z 1 bytes hE.ht hi0 hz0 hz1 hz2 hE.hz hE.hs v l.length (l.map f) hown ad ys.length c (ys.map f) (by simp)
      (fun j u hu => by
        rcases Nat.eq_zero_or_pos ys.length with h0 | h0
        · obtain rfl : ys = [] := List.eq_nil_of_length_eq_zero h0
          simp at hu
        · obtain ⟨ad', h', hc⟩ := hA h0
          injection h' with h'
          subst h'
          exact hc j u hu)
      (fun u hu => by obtain ⟨x, _, rfl⟩ := List.mem_map.1 hu; exact hf x) (by have := Nat.mul_le_mul_left (l.length + ys.length) hby; simp only [maxLen]; omega) hb he.size
    unfold Oper.wp execOp
    simp only [ho, resolve, invoke, builtin, Sem.run_bind, Sem.run_pure, Result.andThen_ok, List.map_toArray, List.map_cons, List.map_nil, hs, hx, hr]
    exact hfin v' w' h2 (he.grown h3 (fun k hk => (hown.lt k hk).1)) h5 h3
end
def appOk (l : List UInt8) (s k : Int) (nm : ByteArray) (ver : Int) (d : List UInt8) : Bool := validLog l s && validRec k nm ver d.length
def appBytes (l : List UInt8) (s k : Int) (nm : ByteArray) (ver : Int) (d : List UInt8) : List UInt8 := if appOk l s k nm ver d then l ++ encRec k nm ver d else l

set_option maxRecDepth 100000 in
set_option maxHeartbeats 4000000 in
theorem iAppendRecord_c (A : Option Addr) (l : List UInt8) (c : Nat) (s : Int) (k : Int) (nm : ByteArray) (ver : Int) (A' : Option Addr) (d : List UInt8) (c' : Nat) (w : World) (hA : Bs w A l c) (hD : Bs w A' d c') (hn : nm.size ≤ 9223372036854775807) (hL : l.length ≤ 1099511627776) :
    Calls Try.prog 14 #[vlog (.slice A l.length c) s, vrec k nm ver (.slice A' d.length c')] w fun e w' => ∃ v, e = .returned (.tuple #[vlog v s, .bool (appOk l s k nm ver d)]) ∧ OwnL vu8 5 w w' v (appBytes l s k nm ver d) ∧ Ext w w' := by
  have hl := hA.len
  have hcap := hA.cap
  have C1 := Lib.hid (fun w h => iCopyLog_c A l c s w h)
  have C2 := Lib.hid (fun w h => iIsValidLog_c A l c s w h hL)
  have C3 := Lib.hid (fun w => iIsValidRecord_c k nm ver A' d c' w hD.len hn)
  have C4 := Lib.hid (fun w h => iEncodeRecord_c k nm ver A' d c' w h hn)
  have hEl := encRec_le k nm ver d
  unfold appBytes appOk
  generalize validLog l s = Vl at *
  generalize validRec k nm ver d.length = Vr at *
  generalize encRec k nm ver d = E at *
  have eb := Ext_alloc (.cells #[.slice none 0 0, .int .i64 0] 25) (Ext_alloc (.cells #[.int .i64 k, .string nm, .int .i64 ver, .slice A' d.length c'] 36) (Ext_alloc (.cells #[.slice A l.length c, .int .i64 s] 25) (Ext.refl w)))
  have BX := fun w' (e : Ext (((w.alloc (.cells #[.slice A l.length c, .int .i64 s] 25)).alloc (.cells #[.int .i64 k, .string nm, .int .i64 ver, .slice A' d.length c'] 36)).alloc (.cells #[.slice none 0 0, .int .i64 0] 25)) w') => boxed3 e
  have B0 := fun w' e => (BX w' e).1
  have B1 := fun w' e => (BX w' e).2.1
  have B2 := fun w' e => (BX w' e).2.2.1
  have F2 := fun w' e => (BX w' e).2.2.2.2.2.1
  clear BX
  unfold vlog vrec at *
  cases Vl <;> cases Vr
  case true.true =>
    have HB : Hid ((l.length + E.length) * 1 ≤ 140737488355328) := by show _ ≤ _; omega
    have HEL : Hid (E.length ≤ 140737488351232) := by show _ ≤ _; omega
    have HLE : Hid ((l ++ E).length ≤ 140737488351232) := by show _ ≤ _; rw [List.length_append]; omega
    go_enter Try.func14, Try.ntmps14
    go_wp2_with fail
    refine (C1.out _ (hA.ext eb)).mono ?_; rintro _ w1 ⟨v1, rfl, ho1, he1⟩; obtain ⟨A1, c1, hv1, r1⟩ := OwnL.rd ho1 hl; subst hv1
    have ex := Ext_alloc (.cells #[.slice A1 l.length c1, .int .i64 s] 25) (Ext.refl w1)
    have HX := Lib.hid (heap_new w1 (.cells #[.slice A1 l.length c1, .int .i64 s] 25))
    have B6 := fun w' (e : Ext (w1.alloc (.cells #[.slice A1 l.length c1, .int .i64 s] 25)) w') => boxed e
    have HN1 : Hid ((Value.slice A1 l.length c1).ownBlock ≠ some w1.heap.size) := OwnL.lt_ne ho1 (.inr (Nat.le_refl _))
    have e1x := he1.trans ex
    go_wp2_with (first
      | (go_at_call 9; refine (C2.out _ (hA.ext (eb.trans (e1x.trans (by first | exact Ext.refl _ | assumption))))).mono ?_; rintro _ w2 ⟨rfl, he2⟩; have eq2 : Ext (w1.alloc (.cells #[.slice A1 l.length c1, .int .i64 s] 25)) w2 := (by first | exact he2 | exact Ext.trans (by assumption) he2); have e12 := e1x.trans eq2)
      | (go_at_call 34; refine (C3.out _).mono ?_; rintro _ w3 ⟨rfl, he3⟩; have eq3 : Ext (w1.alloc (.cells #[.slice A1 l.length c1, .int .i64 s] 25)) w3 := (by first | exact he3 | exact Ext.trans (by assumption) he3); have e13 := e1x.trans eq3))
    have eqq := eq2
    have e1q := e12
    clear he2 he3 eq2 eq3 e12 e13
    have oq := (OwnL.ext ho1 ex).ext eqq
    have B6q := fun w' e => B6 w' (eqq.trans e)
    have HXq := Lib.hid (heap_ext HX.out (eqq.trans (Ext_drew (Ext.refl _))))
    have HDq := Lib.hid (hD.ext (eb.trans (e1q.trans (Ext_drew (Ext.refl _)))))
    have hoq := Lib.hid (OwnL.ext oq (Ext_drew (Ext.refl _)))
    have e1d := e1q.trans (Ext_drew (Ext.refl _))
    have HZ : Hid (w1.heap.size < w2.heap.size) := by have := eqq.size; simp at this; show _ < _; omega
    go_region_law (first
      | (refine step_appG rfl (.tmp 19) (.tmp 21) _ rfl E_u8 (by omega) _ _ vu8 (fun _ => rfl) (.slice A1 l.length c1) rfl _ _ _ rfl l E (hoq.out.ext (by assumption)) (e1d.trans (by assumption)) rfl (r5.src (Ext.refl _)) HB.out ?_; intro v6 w6 ho6 he6 hb6 hg6; have H6 := Lib.hid (heap_grown (heap_ext HXq.out he5) hg6 (Ne.symm HN1.out)); have c60 := cell_of_row w6 w1.heap.size 0 _ _ (0, 0) H6.out; have c61 := cell_of_row w6 w1.heap.size 1 _ _ (0, 0) H6.out; have f60 := frozen_of_row w6 w1.heap.size 0 _ _ H6.out; simp at c60 c61; obtain ⟨A6, c6, hv6, _⟩ := OwnL.rd ho6 HLE.out; rw [List.length_append] at hv6; have HN6 : Hid (v6.ownBlock ≠ some w1.heap.size) := (by have h5 := he5q.size; have h1 := HZ.out; rcases hb6 with hb | hb; (rw [hb]; exact HN1.out); (rw [hb]; intro he; injection he with he; omega)); clear hb6 hg6; subst hv6)
      | (go_simp; go_at_call 35; refine (C4.out _ HDq.out).mono ?_; rintro _ w5 ⟨v5, rfl, ho5, he5⟩; obtain ⟨A5, c5, hv5, r5⟩ := OwnL.rd ho5 HEL.out; subst hv5; have he5q := (Ext_drew (Ext.refl w2)).trans he5; have he5b := e1q.trans he5q))
    all_goals
      have hs1 : w.heap.size + 1 + 1 < w1.heap.size := by have := he1.size; simp at this; omega
      have hz0 := B2 w6 he6 0; have hz1 := B2 w6 he6 1; have hF2 := F2 w6 he6
      simp at hz0 hz1
      go_wp2
      have hB2 : ∀ i, (w6.setCell ⟨w1.heap.size, 0, none⟩ (.slice A6 (l.length + E.length) c6)).cell? ⟨w.heap.size + 1 + 1, i, none⟩ = #[Value.slice none 0 0, Value.int .i64 0][i]? := by
        intro i
        have hoth : (w6.setCell ⟨w1.heap.size, 0, none⟩ (.slice A6 (l.length + E.length) c6)).cell? ⟨w.heap.size + 1 + 1, i, none⟩ = w6.cell? ⟨w.heap.size + 1 + 1, i, none⟩ := by
          apply World.cell?_setCell_other
          intro hh; injection hh with hh; omega
        exact hoth.trans (B2 _ he6 i)
      obtain ⟨s0, s1⟩ := stored2 hB2
      refine bodyPost_ret (v := .tuple #[.agg #[.slice A6 (l.length + E.length) c6, .int .i64 s], .bool true]) (by simp [results, Try.results14, go_sem, s0, s1]) rfl ⟨_, rfl, ?_, ?_⟩
      · exact OwnL.lower (ownsRow_setCell_below (ownsRow_setCell_below (OwnL.set ho6 _ _ HN6.out) (by simp) _) (by simp) _) eb
      · exact (((eb.trans he6).setCell (by show w.heap.size ≤ w1.heap.size; omega) _).setCell (by show w.heap.size ≤ w.heap.size + 1 + 1; omega) _).setCell (by show w.heap.size ≤ w.heap.size + 1 + 1; omega) _
  all_goals
    go_enter Try.func14, Try.ntmps14
    go_wp2_with fail
    refine (C1.out _ (hA.ext eb)).mono ?_; rintro _ w1 ⟨v1, rfl, ho1, he1⟩; obtain ⟨A1, c1, hv1, r1⟩ := OwnL.rd ho1 hl; subst hv1
    have ex := Ext_alloc (.cells #[.slice A1 l.length c1, .int .i64 s] 25) (Ext.refl w1)
    have B6 := fun w' (e : Ext (w1.alloc (.cells #[.slice A1 l.length c1, .int .i64 s] 25)) w') => boxed e
    have e1x := he1.trans ex
    go_wp2_with (first
      | (go_at_call 9; refine (C2.out _ (hA.ext (eb.trans (e1x.trans (by first | exact Ext.refl _ | assumption))))).mono ?_; rintro _ w2 ⟨rfl, he2⟩; have eq2 : Ext (w1.alloc (.cells #[.slice A1 l.length c1, .int .i64 s] 25)) w2 := (by first | exact he2 | exact Ext.trans (by assumption) he2); have e12 := e1x.trans eq2)
      | (go_at_call 34; refine (C3.out _).mono ?_; rintro _ w3 ⟨rfl, he3⟩; have eq3 : Ext (w1.alloc (.cells #[.slice A1 l.length c1, .int .i64 s] 25)) w3 := (by first | exact he3 | exact Ext.trans (by assumption) he3); have e13 := e1x.trans eq3))
    first
      | (have hB2 := B2 w2 e12
         have o6 := (OwnL.ext ho1 ex).ext eq2
         obtain ⟨s0, s1⟩ := stored2 hB2
         refine bodyPost_ret (v := .tuple #[.agg #[.slice A1 l.length c1, .int .i64 s], .bool false]) (by simp [results, Try.results14, go_sem, s0, s1]) rfl ⟨_, rfl, ?_, ?_⟩
         · exact OwnL.lower (ownsRow_setCell_below (ownsRow_setCell_below o6 (by simp) _) (by simp) _) eb
         · exact ((eb.trans e12).setCell (by show w.heap.size ≤ w.heap.size + 1 + 1; omega) _).setCell (by show w.heap.size ≤ w.heap.size + 1 + 1; omega) _)
      | (have hB2 := B2 w3 e13
         have o6 := (OwnL.ext ho1 ex).ext eq3
         obtain ⟨s0, s1⟩ := stored2 hB2
         refine bodyPost_ret (v := .tuple #[.agg #[.slice A1 l.length c1, .int .i64 s], .bool false]) (by simp [results, Try.results14, go_sem, s0, s1]) rfl ⟨_, rfl, ?_, ?_⟩
         · exact OwnL.lower (ownsRow_setCell_below (ownsRow_setCell_below o6 (by simp) _) (by simp) _) eb
         · exact ((eb.trans e13).setCell (by show w.heap.size ≤ w.heap.size + 1 + 1; omega) _).setCell (by show w.heap.size ≤ w.heap.size + 1 + 1; omega) _)

set_option maxRecDepth 100000 in
set_option maxHeartbeats 4000000 in
theorem sAppendRecord_c (A : Option Addr) (l : List UInt8) (c : Nat) (s : Int) (k : Int) (nm : ByteArray) (ver : Int) (A' : Option Addr) (d : List UInt8) (c' : Nat) (w : World) (hA : Bs w A l c) (hD : Bs w A' d c') (hn : nm.size ≤ 9223372036854775807) (hL : l.length ≤ 1099511627776) :
    Calls Try.prog 56 #[vlog (.slice A l.length c) s, vrec k nm ver (.slice A' d.length c')] w fun e w' => ∃ v, e = .returned (.tuple #[vlog v s, .bool (appOk l s k nm ver d)]) ∧ OwnL vu8 5 w w' v (appBytes l s k nm ver d) ∧ Ext w w' := by
  have hl := hA.len
  have hcap := hA.cap
  have C1 := Lib.hid (fun w h => sCopyLog_c A l c s w h)
  have C2 := Lib.hid (fun w h => sIsValidLog_c A l c s w h hL)
  have C3 := Lib.hid (fun w => sIsValidRecord_c k nm ver A' d c' w hD.len hn)
  have C4 := Lib.hid (fun w h => sEncodeRecord_c k nm ver A' d c' w h hn)
  have hEl := encRec_le k nm ver d
  unfold appBytes appOk
  generalize validLog l s = Vl at *
  generalize validRec k nm ver d.length = Vr at *
  generalize encRec k nm ver d = E at *
  have eb := Ext_alloc (.cells #[.slice none 0 0, .int .i64 0] 25) (Ext_alloc (.cells #[.int .i64 k, .string nm, .int .i64 ver, .slice A' d.length c'] 36) (Ext_alloc (.cells #[.slice A l.length c, .int .i64 s] 25) (Ext.refl w)))
  have BX := fun w' (e : Ext (((w.alloc (.cells #[.slice A l.length c, .int .i64 s] 25)).alloc (.cells #[.int .i64 k, .string nm, .int .i64 ver, .slice A' d.length c'] 36)).alloc (.cells #[.slice none 0 0, .int .i64 0] 25)) w') => boxed3 e
  have B0 := fun w' e => (BX w' e).1
  have B1 := fun w' e => (BX w' e).2.1
  have B2 := fun w' e => (BX w' e).2.2.1
  have F2 := fun w' e => (BX w' e).2.2.2.2.2.1
  clear BX
  unfold vlog vrec at *
  cases Vl <;> cases Vr
  case true.true =>
    have HB : Hid ((l.length + E.length) * 1 ≤ 140737488355328) := by show _ ≤ _; omega
    have HEL : Hid (E.length ≤ 140737488351232) := by show _ ≤ _; omega
    have HLE : Hid ((l ++ E).length ≤ 140737488351232) := by show _ ≤ _; rw [List.length_append]; omega
    go_enter Try.func56, Try.ntmps56
    go_wp2_with fail
    refine (C1.out _ (hA.ext eb)).mono ?_; rintro _ w1 ⟨v1, rfl, ho1, he1⟩; obtain ⟨A1, c1, hv1, r1⟩ := OwnL.rd ho1 hl; subst hv1
    have ex := Ext_alloc (.cells #[.slice A1 l.length c1, .int .i64 s] 25) (Ext.refl w1)
    have HX := Lib.hid (heap_new w1 (.cells #[.slice A1 l.length c1, .int .i64 s] 25))
    have B6 := fun w' (e : Ext (w1.alloc (.cells #[.slice A1 l.length c1, .int .i64 s] 25)) w') => boxed e
    have HN1 : Hid ((Value.slice A1 l.length c1).ownBlock ≠ some w1.heap.size) := OwnL.lt_ne ho1 (.inr (Nat.le_refl _))
    have e1x := he1.trans ex
    go_wp2_with (first
      | (go_at_call 7; refine (C2.out _ (hA.ext (eb.trans (e1x.trans (by first | exact Ext.refl _ | assumption))))).mono ?_; rintro _ w2 ⟨rfl, he2⟩; have eq2 : Ext (w1.alloc (.cells #[.slice A1 l.length c1, .int .i64 s] 25)) w2 := (by first | exact he2 | exact Ext.trans (by assumption) he2); have e12 := e1x.trans eq2)
      | (go_at_call 16; refine (C3.out _).mono ?_; rintro _ w3 ⟨rfl, he3⟩; have eq3 : Ext (w1.alloc (.cells #[.slice A1 l.length c1, .int .i64 s] 25)) w3 := (by first | exact he3 | exact Ext.trans (by assumption) he3); have e13 := e1x.trans eq3))
    have eqq := eq3
    have e1q := e13
    clear he2 he3 eq2 eq3 e12 e13
    have oq := (OwnL.ext ho1 ex).ext eqq
    have B6q := fun w' e => B6 w' (eqq.trans e)
    have HXq := Lib.hid (heap_ext HX.out (eqq.trans (Ext_drew (Ext.refl _))))
    have HDq := Lib.hid (hD.ext (eb.trans (e1q.trans (Ext_drew (Ext.refl _)))))
    have hoq := Lib.hid (OwnL.ext oq (Ext_drew (Ext.refl _)))
    have e1d := e1q.trans (Ext_drew (Ext.refl _))
    have HZ : Hid (w1.heap.size < w3.heap.size) := by have := eqq.size; simp at this; show _ < _; omega
    go_region_law (first
      | (refine step_appG rfl (.tmp 19) (.tmp 21) _ rfl E_u8 (by omega) _ _ vu8 (fun _ => rfl) (.slice A1 l.length c1) rfl _ _ _ rfl l E (hoq.out.ext (by assumption)) (e1d.trans (by assumption)) rfl (r5.src (Ext.refl _)) HB.out ?_; intro v6 w6 ho6 he6 hb6 hg6; have H6 := Lib.hid (heap_grown (heap_ext HXq.out he5) hg6 (Ne.symm HN1.out)); have c60 := cell_of_row w6 w1.heap.size 0 _ _ (0, 0) H6.out; have c61 := cell_of_row w6 w1.heap.size 1 _ _ (0, 0) H6.out; have f60 := frozen_of_row w6 w1.heap.size 0 _ _ H6.out; simp at c60 c61; obtain ⟨A6, c6, hv6, _⟩ := OwnL.rd ho6 HLE.out; rw [List.length_append] at hv6; have HN6 : Hid (v6.ownBlock ≠ some w1.heap.size) := (by have h5 := he5q.size; have h1 := HZ.out; rcases hb6 with hb | hb; (rw [hb]; exact HN1.out); (rw [hb]; intro he; injection he with he; omega)); clear hb6 hg6; subst hv6)
      | (go_simp; go_at_call 48; refine (C4.out _ HDq.out).mono ?_; rintro _ w5 ⟨v5, rfl, ho5, he5⟩; obtain ⟨A5, c5, hv5, r5⟩ := OwnL.rd ho5 HEL.out; subst hv5; have he5q := (Ext_drew (Ext.refl w3)).trans he5; have he5b := e1q.trans he5q))
    all_goals
      have hs1 : w.heap.size + 1 + 1 < w1.heap.size := by have := he1.size; simp at this; omega
      have hz0 := B2 w6 he6 0; have hz1 := B2 w6 he6 1; have hF2 := F2 w6 he6
      simp at hz0 hz1
      go_wp2
      have hB2 : ∀ i, (w6.setCell ⟨w1.heap.size, 0, none⟩ (.slice A6 (l.length + E.length) c6)).cell? ⟨w.heap.size + 1 + 1, i, none⟩ = #[Value.slice none 0 0, Value.int .i64 0][i]? := by
        intro i
        have hoth : (w6.setCell ⟨w1.heap.size, 0, none⟩ (.slice A6 (l.length + E.length) c6)).cell? ⟨w.heap.size + 1 + 1, i, none⟩ = w6.cell? ⟨w.heap.size + 1 + 1, i, none⟩ := by
          apply World.cell?_setCell_other
          intro hh; injection hh with hh; omega
        exact hoth.trans (B2 _ he6 i)
      obtain ⟨s0, s1⟩ := stored2 hB2
      refine bodyPost_ret (v := .tuple #[.agg #[.slice A6 (l.length + E.length) c6, .int .i64 s], .bool true]) (by simp [results, Try.results56, go_sem, s0, s1]) rfl ⟨_, rfl, ?_, ?_⟩
      · exact OwnL.lower (ownsRow_setCell_below (ownsRow_setCell_below (OwnL.set ho6 _ _ HN6.out) (by simp) _) (by simp) _) eb
      · exact (((eb.trans he6).setCell (by show w.heap.size ≤ w1.heap.size; omega) _).setCell (by show w.heap.size ≤ w.heap.size + 1 + 1; omega) _).setCell (by show w.heap.size ≤ w.heap.size + 1 + 1; omega) _
  all_goals
    go_enter Try.func56, Try.ntmps56
    go_wp2_with fail
    refine (C1.out _ (hA.ext eb)).mono ?_; rintro _ w1 ⟨v1, rfl, ho1, he1⟩; obtain ⟨A1, c1, hv1, r1⟩ := OwnL.rd ho1 hl; subst hv1
    have ex := Ext_alloc (.cells #[.slice A1 l.length c1, .int .i64 s] 25) (Ext.refl w1)
    have B6 := fun w' (e : Ext (w1.alloc (.cells #[.slice A1 l.length c1, .int .i64 s] 25)) w') => boxed e
    have e1x := he1.trans ex
    go_wp2_with (first
      | (go_at_call 7; refine (C2.out _ (hA.ext (eb.trans (e1x.trans (by first | exact Ext.refl _ | assumption))))).mono ?_; rintro _ w2 ⟨rfl, he2⟩; have eq2 : Ext (w1.alloc (.cells #[.slice A1 l.length c1, .int .i64 s] 25)) w2 := (by first | exact he2 | exact Ext.trans (by assumption) he2); have e12 := e1x.trans eq2)
      | (go_at_call 16; refine (C3.out _).mono ?_; rintro _ w3 ⟨rfl, he3⟩; have eq3 : Ext (w1.alloc (.cells #[.slice A1 l.length c1, .int .i64 s] 25)) w3 := (by first | exact he3 | exact Ext.trans (by assumption) he3); have e13 := e1x.trans eq3))
    first
      | (have hB2 := B2 w2 e12
         have o6 := (OwnL.ext ho1 ex).ext eq2
         obtain ⟨s0, s1⟩ := stored2 hB2
         refine bodyPost_ret (v := .tuple #[.agg #[.slice A1 l.length c1, .int .i64 s], .bool false]) (by simp [results, Try.results56, go_sem, s0, s1]) rfl ⟨_, rfl, ?_, ?_⟩
         · exact OwnL.lower (ownsRow_setCell_below (ownsRow_setCell_below o6 (by simp) _) (by simp) _) eb
         · exact ((eb.trans e12).setCell (by show w.heap.size ≤ w.heap.size + 1 + 1; omega) _).setCell (by show w.heap.size ≤ w.heap.size + 1 + 1; omega) _)
      | (have hB2 := B2 w3 e13
         have o6 := (OwnL.ext ho1 ex).ext eq3
         obtain ⟨s0, s1⟩ := stored2 hB2
         refine bodyPost_ret (v := .tuple #[.agg #[.slice A1 l.length c1, .int .i64 s], .bool false]) (by simp [results, Try.results56, go_sem, s0, s1]) rfl ⟨_, rfl, ?_, ?_⟩
         · exact OwnL.lower (ownsRow_setCell_below (ownsRow_setCell_below o6 (by simp) _) (by simp) _) eb
         · exact ((eb.trans e13).setCell (by show w.heap.size ≤ w.heap.size + 1 + 1; omega) _).setCell (by show w.heap.size ≤ w.heap.size + 1 + 1; omega) _)
end Go.Proofs.Ytcaeeoghkonniaa
