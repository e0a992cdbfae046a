/- ReadRecords and CountRecords of the program and of the reference. -/
import Derived.Test.YtcaeeoghkonniaaDecS
import Derived.Test.YtcaeeoghkonniaaReadPure
import Derived.Test.YtcaeeoghkonniaaLawDec
namespace Go.Proofs.Ytcaeeoghkonniaa
open Go.RowKit Go.Sort

theorem E_rec : Elem Try.prog 31 36 4 56 (.agg #[.int .i64 0, .string ⟨#[]⟩, .int .i64 0, .slice none 0 0]) := ⟨Try.underlying31, by kernel_rfl, rfl, by omega⟩
/-- the cells of records, each with its data's slice -/
def rcells (p : DRec × Value) : List Value := [.int .i64 p.1.k, .string p.1.nm, .int .i64 p.1.ver, p.2]
theorem rcells_len (ps : List (DRec × Value)) : (ps.flatMap rcells).length = ps.length * 4 := by
  induction ps with
  | nil => rfl
  | cons p t ih => rw [List.flatMap_cons, List.length_append, ih, List.length_cons]; simp [rcells]; omega
/-- no two of the values lie in one block -/
def Apart (vs : List Value) : Prop := vs.Pairwise fun a b => ∀ g, a.ownBlock = some g → b.ownBlock ≠ some g
/-- records that the call since w0 made, each with data of its own -/
def OwnR (w0 w : World) (v : Value) (ps : List (DRec × Value)) : Prop :=
  Own 36 4 w0 w v ps.length (ps.flatMap rcells) ∧ (∀ p ∈ ps, OwnL vu8 5 w0 w p.2 p.1.l) ∧ Apart (v :: ps.map Prod.snd)
theorem OwnR.ext {w0 w w' : World} {v : Value} {ps : List (DRec × Value)} (h : OwnR w0 w v ps) (e : Ext w w') : OwnR w0 w' v ps :=
  ⟨Own.ext h.1 e, fun p hp => OwnL.ext (h.2.1 p hp) e, h.2.2⟩
theorem OwnR.lower {w0 w1 w : World} {v : Value} {ps : List (DRec × Value)} (h : OwnR w1 w v ps) (e : Ext w0 w1) : OwnR w0 w v ps :=
  ⟨World.ownsRow.lower h.1 e.size, fun p hp => OwnL.lower (h.2.1 p hp) e, h.2.2⟩
theorem OwnR.shape {w0 w : World} {v : Value} {ps : List (DRec × Value)} (h : OwnR w0 w v ps) : ∃ A c, v = .slice A ps.length c := by
  rcases h.1.2 with ⟨rfl, hn⟩ | ⟨g, cap, _, rfl, _⟩
  · exact ⟨none, 0, by rw [hn]⟩
  · exact ⟨_, _, rfl⟩
/-- a row behind an append: the same block, or the newest -/
theorem OwnR.push {w0 w1 w2 : World} {v v' : Value} {ps : List (DRec × Value)} {p : DRec × Value} (h : OwnR w0 w1 v ps) (hp : OwnL vu8 5 w0 w1 p.2 p.1.l)
    (hnew : ∀ q ∈ ps, ∀ g, q.2.ownBlock = some g → p.2.ownBlock ≠ some g) (hv : ∀ g, v.ownBlock = some g → p.2.ownBlock ≠ some g)
    (ho : Own 36 4 w0 w2 v' (ps.length + 1) (ps.flatMap rcells ++ rcells p)) (hb : v'.ownBlock = v.ownBlock ∨ v'.ownBlock = some w1.heap.size) (hg : w1.grownBy w2 v.ownBlock) : OwnR w0 w2 v' (ps ++ [p]) := by
  have hap := h.2.2
  unfold Apart at hap
  rw [List.pairwise_cons] at hap
  refine ⟨by simpa [List.flatMap_append, List.flatMap_cons] using ho, ?_, ?_⟩
  · intro q hq
    have hlast : ∀ q : DRec × Value, OwnL vu8 5 w0 w1 q.2 q.1.l → (∀ g, v.ownBlock = some g → q.2.ownBlock ≠ some g) → OwnL vu8 5 w0 w2 q.2 q.1.l := by
      intro q hq hne
      refine World.ownsRow.kept hq hg ?_
      cases hb' : q.2.ownBlock with
      | none => exact .inl rfl
      | some g => right; intro hvv; exact hne g hvv.symm hb'
    rcases List.mem_append.1 hq with hq | hq
    · exact hlast q (h.2.1 q hq) (fun g hg => hap.1 q.2 (List.mem_map_of_mem hq) g hg)
    · rw [List.mem_singleton.1 hq]; exact hlast p hp hv
  · have hlt : ∀ q ∈ ps ++ [p], ∀ g, q.2.ownBlock = some g → g < w1.heap.size := by
      intro q hq g hg'
      rcases List.mem_append.1 hq with hq | hq
      · exact OwnL.block (h.2.1 q hq) g hg'
      · rw [List.mem_singleton.1 hq] at hg'; exact OwnL.block hp g hg'
    have hne : ∀ q ∈ ps ++ [p], ∀ g, v.ownBlock = some g → q.2.ownBlock ≠ some g := by
      intro q hq g hg'
      rcases List.mem_append.1 hq with hq | hq
      · exact hap.1 q.2 (List.mem_map_of_mem hq) g hg'
      · rw [List.mem_singleton.1 hq]; exact hv g hg'
    unfold Apart
    rw [List.pairwise_cons, List.map_append, List.pairwise_append]
    refine ⟨?_, hap.2, by simp, ?_⟩
    · intro u hu g hg' hu'
      rw [← List.map_append] at hu
      obtain ⟨q, hq, rfl⟩ := List.mem_map.1 hu
      rcases hb with hb | hb
      · rw [hb] at hg'; exact hne q hq g hg' hu'
      · rw [hb] at hg'; injection hg' with hg'; subst hg'; exact absurd (hlt q hq _ hu') (Nat.lt_irrefl _)
    · intro u hu u' hu' g hg' hg''
      obtain ⟨q, hq, rfl⟩ := List.mem_map.1 hu
      have : u' = p.2 := by simpa using hu'
      subst this
      exact hnew q hq g hg' hg''

section
variable {P : Program} {ops : Array Oper} {rest : List Oper} {o : Oper} {a : Act} {Q : Exit → Act → World → Prop}
/-- append(s, x1, .., xm), with what becomes of the block -/
theorem wpList_appB (hgd : o.guard = none) (s x : Operand) (t : TypeId) (ho : o.op = .call { callee := .builtin .append, args := #[s, x], argTypes := #[t, t] })
    {e : TypeId} {size bytes : Nat} {z : Value} (hE : Elem P t e size bytes z) (w0 w : World) (v : Value) (n : Nat) (xs : List Value) (hs : a.eval s = v) (hown : Own e size w0 w v n xs)
    (he : Ext w0 w) (news : List Value) (cs : Array Value) (hcs : cs = news.toArray) (m c g : Nat) (hx : a.eval x = .slice (some ⟨g, 0, none⟩) m c) (hgw : g = w.heap.size) (hl : news.length = m * size) (h1 : ∀ u ∈ news, u.oneCell' = true)
    (hm : n + m ≤ maxLen) (hb : (n + m) * bytes ≤ 140737488355328)
    (h : ∀ v' w', Own e size w0 w' v' (n + m) (xs ++ news) → Ext w0 w' → (v'.ownBlock = v.ownBlock ∨ v'.ownBlock = some (w.alloc (.cells cs e)).heap.size) → (w.alloc (.cells cs e)).grownBy w' v.ownBlock → wpList P ops Q rest (a.put o.dst v') w') :
    wpList P ops Q (o :: rest) a (w.alloc (.cells cs e)) := by
  subst hcs; subst hgw
  refine wpList_app_any hgd s x t ho hE w0 _ v n xs hs (World.ownsRow.alloc hown _) (Ext_alloc _ he) news (some ⟨w.heap.size, 0, none⟩) m c hx hl (fun _ => ⟨_, rfl, fun j u hj => ?_⟩) h1 hm hb h
  rw [World.cell?_alloc_at']; exact hj
end

set_option maxRecDepth 100000 in
set_option maxHeartbeats 2000000 in
theorem iReadRecords_c (A : Option Addr) (l : List UInt8) (c : Nat) (w : World) (h : Bs w A l c) (hL : l.length ≤ 1099511627776) :
    Calls Try.prog 10 #[.slice A l.length c] w fun e w' => ∃ v ps, e = .returned (.tuple #[v, .int .i64 (stop l 0 : Nat)]) ∧ ps.map Prod.fst = recs l 0 ∧ OwnR w w' v ps ∧ Ext w w' := by
  have hcnt := recs_le (b := l) (a := 0) (by omega)
  have H := Lib.hid h; clear h
  go_enter Try.func10, Try.ntmps10
  go_wp2
  go_loopw [4, 5] (fun t i wr => ∃ (a : Nat) (ps : List (DRec × Value)), a ≤ l.length ∧ i = .int .i64 a ∧ OwnR w wr t ps ∧ Hid (ps.map Prod.fst ++ recs l a = recs l 0) ∧ Hid (stop l a = stop l 0) ∧ Ext w wr) (fun _ i _ => l.length - (intOf i).toNat)
  case atStart => exact ⟨0, [], by omega, rfl, ⟨Own.empty (Ext.refl _), by simp, by simp [Apart]⟩, by simp [Hid], rfl, Ext_alloc _ (Ext.refl _)⟩
  case round =>
    obtain ⟨a, ps, ha, rfl, ho, hs, ht, he⟩ := hrel
    have hps : ps.length ≤ l.length := by have := congrArg List.length hs.out; rw [List.length_append, List.length_map] at this; omega
    have hwf : (Lit.int .i64 (a : Int)).wf = true := WalkArith.wf_i64 (by omega)
    have CD := Lib.hid (fun w h => iDecodeRecord_c A l c a w h hwf)
    unfold DecOut at CD
    cases hd : decN l a with
    | none =>
      obtain ⟨q1, q2⟩ := dec_no hd
      obtain ⟨q3, q4⟩ := read_none hd
      rw [q1, q2] at CD
      have hs' : Hid (ps.map Prod.fst = recs l 0) := by have := hs.out; rw [q3, List.append_nil] at this; exact this
      have ht' : Hid (a = stop l 0) := by have := ht.out; rw [q4] at this; exact this
      clear q1 q2 q3 q4 hs ht hd
      unfold vrec DRec.zero at CD
      go_wp2_with (first
        | (go_at_call 30; refine (CD.out _ (H.out.ext he)).mono ?_; rintro _ w1 ⟨v1, rfl, ho1, he1⟩; obtain ⟨A1, c1, hv1, _⟩ := OwnL.rd ho1 (by simp); subst hv1))
      go_ret2
      refine ⟨u4, ps, ?_, hs'.out, (ho.ext he1).ext (Ext_alloc _ (Ext.refl _)), Ext_alloc _ (he.trans he1)⟩
      rw [← ht'.out]; rfl
    | some r =>
      obtain ⟨q1, q2⟩ := dec_yes hd
      obtain ⟨q3, q4⟩ := read_some hd
      have hf := decN_fits hd
      have hrl : r.l.length ≤ 400 := by have := validRec_facts (decN_some hd).2.1; omega
      rw [q1, q2] at CD
      obtain ⟨a', ha'⟩ : ∃ a', a + sizeAt l a = a' := ⟨_, rfl⟩
      rw [ha'] at q3 q4
      rw [show a + nmAt l a + 6 + szAt l a = a' by rw [← ha']; unfold sizeAt; omega] at CD
      have ha2 : a' ≤ l.length := by omega
      have ha3 : a < a' := by omega
      obtain ⟨k, nm, ver, d⟩ := r
      dsimp only [Option.getD_some] at CD hrl
      have hs' : Hid ((ps.map Prod.fst ++ [⟨k, nm, ver, d⟩]) ++ recs l a' = recs l 0) := by have := hs.out; rw [q3] at this; show _ = _; rw [← this]; simp
      have ht' : Hid (stop l a' = stop l 0) := by have := ht.out; rw [q4] at this; exact this
      clear q1 q2 q3 q4 hs ht hd ha' hf
      have HB : Hid ((ps.length + 1) * 56 ≤ 140737488355328) := by show _ ≤ _; omega
      have HM : Hid (ps.length + 1 ≤ maxLen) := by show _ ≤ _; simp only [maxLen]; omega
      unfold vrec at CD
      go_wp2_with (first
        | (go_at_call 30; refine (CD.out _ (H.out.ext he)).mono ?_; rintro _ w1 ⟨v1, rfl, ho1, he1⟩; obtain ⟨A1, c1, hv1, _⟩ := OwnL.rd ho1 (by omega); subst hv1; have ex := Ext_alloc (.cells #[.int .i64 k, .string nm, .int .i64 ver, .slice A1 d.length c1] 36) (Ext.refl w1); have hor := (ho.ext he1).ext ex)
        | (at_builtin; refine wpList_appB rfl (.tmp 21) (.tmp 23) _ rfl E_rec w _ _ ps.length _ rfl hor.1 ((he.trans he1).trans ex) (rcells (⟨k, nm, ver, d⟩, .slice A1 d.length c1)) _ rfl 1 _ _ rfl (by simp) rfl (by intro u hu; simp [rcells] at hu; rcases hu with rfl | rfl | rfl | rfl <;> rfl) HM.out HB.out ?_; intro v2 w2 ho2 he2 hb2 hg2))
      have hfin : OwnR w w2 v2 (ps ++ [(⟨k, nm, ver, d⟩, .slice A1 d.length c1)]) := by
        have hx := Ext_alloc (.cells #[.int .i64 k, .string nm, .int .i64 ver, .slice A1 d.length c1] 36) ex
        refine OwnR.push (hor.ext (Ext_alloc _ (Ext.refl _))) (p := (⟨k, nm, ver, d⟩, .slice A1 d.length c1)) (OwnL.ext (OwnL.lower ho1 he) hx) ?_ ?_ ho2 hb2 hg2
        · intro q hq g hg hg'
          have h1 := OwnL.block (ho.2.1 q hq) g hg
          have h2 := (World.ownsRow.lt ho1 g hg').1
          omega
        · intro g hg hg'
          have h1 := (World.ownsRow.lt ho.1 g hg).2
          have h2 := (World.ownsRow.lt ho1 g hg').1
          omega
      go_roundw
      case rel => exact ⟨a', ps ++ [(⟨k, nm, ver, d⟩, .slice A1 d.length c1)], by omega, by go_num, hfin, by simpa [Hid] using hs'.out, ht', he2⟩
      case measure => simp [intOf]; omega

set_option maxRecDepth 100000 in
set_option maxHeartbeats 2000000 in
theorem sReadRecords_c (A : Option Addr) (l : List UInt8) (c : Nat) (w : World) (h : Bs w A l c) (hL : l.length ≤ 1099511627776) :
    Calls Try.prog 11 #[.slice A l.length c] w fun e w' => ∃ v ps, e = .returned (.tuple #[v, .int .i64 (stop l 0 : Nat)]) ∧ ps.map Prod.fst = recs l 0 ∧ OwnR w w' v ps ∧ Ext w w' := by
  have hcnt := recs_le (b := l) (a := 0) (by omega)
  have H := Lib.hid h; clear h
  go_enter Try.func11, Try.ntmps11
  go_wp2
  go_loopw [4, 5] (fun t i wr => ∃ (a : Nat) (ps : List (DRec × Value)), a ≤ l.length ∧ i = .int .i64 a ∧ OwnR w wr t ps ∧ Hid (ps.map Prod.fst ++ recs l a = recs l 0) ∧ Hid (stop l a = stop l 0) ∧ Ext w wr) (fun _ i _ => l.length - (intOf i).toNat)
  case atStart => exact ⟨0, [], by omega, rfl, ⟨Own.empty (Ext.refl _), by simp, by simp [Apart]⟩, by simp [Hid], rfl, Ext_alloc _ (Ext.refl _)⟩
  case round =>
    obtain ⟨a, ps, ha, rfl, ho, hs, ht, he⟩ := hrel
    have hps : ps.length ≤ l.length := by have := congrArg List.length hs.out; rw [List.length_append, List.length_map] at this; omega
    have hwf : (Lit.int .i64 (a : Int)).wf = true := WalkArith.wf_i64 (by omega)
    have CD := Lib.hid (fun w h => sDecodeRecord_c A l c a w h hwf)
    unfold DecOut at CD
    cases hd : decN l a with
    | none =>
      obtain ⟨q1, q2⟩ := dec_no hd
      obtain ⟨q3, q4⟩ := read_none hd
      rw [q1, q2] at CD
      have hs' : Hid (ps.map Prod.fst = recs l 0) := by have := hs.out; rw [q3, List.append_nil] at this; exact this
      have ht' : Hid (a = stop l 0) := by have := ht.out; rw [q4] at this; exact this
      clear q1 q2 q3 q4 hs ht hd
      unfold vrec DRec.zero at CD
      go_wp2_with (first
        | (go_at_call 31; refine (CD.out _ (H.out.ext he)).mono ?_; rintro _ w1 ⟨v1, rfl, ho1, he1⟩; obtain ⟨A1, c1, hv1, _⟩ := OwnL.rd ho1 (by simp); subst hv1))
      go_ret2
      refine ⟨u4, ps, ?_, hs'.out, (ho.ext he1).ext (Ext_alloc _ (Ext.refl _)), Ext_alloc _ (he.trans he1)⟩
      rw [← ht'.out]; rfl
    | some r =>
      obtain ⟨q1, q2⟩ := dec_yes hd
      obtain ⟨q3, q4⟩ := read_some hd
      have hf := decN_fits hd
      have hrl : r.l.length ≤ 400 := by have := validRec_facts (decN_some hd).2.1; omega
      rw [q1, q2] at CD
      obtain ⟨a', ha'⟩ : ∃ a', a + sizeAt l a = a' := ⟨_, rfl⟩
      rw [ha'] at q3 q4
      rw [show a + nmAt l a + 6 + szAt l a = a' by rw [← ha']; unfold sizeAt; omega] at CD
      have ha2 : a' ≤ l.length := by omega
      have ha3 : a < a' := by omega
      obtain ⟨k, nm, ver, d⟩ := r
      dsimp only [Option.getD_some] at CD hrl
      have hs' : Hid ((ps.map Prod.fst ++ [⟨k, nm, ver, d⟩]) ++ recs l a' = recs l 0) := by have := hs.out; rw [q3] at this; show _ = _; rw [← this]; simp
      have ht' : Hid (stop l a' = stop l 0) := by have := ht.out; rw [q4] at this; exact this
      clear q1 q2 q3 q4 hs ht hd ha' hf
      have HB : Hid ((ps.length + 1) * 56 ≤ 140737488355328) := by show _ ≤ _; omega
      have HM : Hid (ps.length + 1 ≤ maxLen) := by show _ ≤ _; simp only [maxLen]; omega
      unfold vrec at CD
      go_wp2_with (first
        | (go_at_call 31; refine (CD.out _ (H.out.ext he)).mono ?_; rintro _ w1 ⟨v1, rfl, ho1, he1⟩; obtain ⟨A1, c1, hv1, _⟩ := OwnL.rd ho1 (by omega); subst hv1; have ex := Ext_alloc (.cells #[.int .i64 k, .string nm, .int .i64 ver, .slice A1 d.length c1] 36) (Ext.refl w1); have hor := (ho.ext he1).ext ex)
        | (at_builtin; refine wpList_appB rfl (.tmp 21) (.tmp 23) _ rfl E_rec w _ _ ps.length _ rfl hor.1 ((he.trans he1).trans ex) (rcells (⟨k, nm, ver, d⟩, .slice A1 d.length c1)) _ rfl 1 _ _ rfl (by simp) rfl (by intro u hu; simp [rcells] at hu; rcases hu with rfl | rfl | rfl | rfl <;> rfl) HM.out HB.out ?_; intro v2 w2 ho2 he2 hb2 hg2))
      have hfin : OwnR w w2 v2 (ps ++ [(⟨k, nm, ver, d⟩, .slice A1 d.length c1)]) := by
        have hx := Ext_alloc (.cells #[.int .i64 k, .string nm, .int .i64 ver, .slice A1 d.length c1] 36) ex
        refine OwnR.push (hor.ext (Ext_alloc _ (Ext.refl _))) (p := (⟨k, nm, ver, d⟩, .slice A1 d.length c1)) (OwnL.ext (OwnL.lower ho1 he) hx) ?_ ?_ ho2 hb2 hg2
        · intro q hq g hg hg'
          have h1 := OwnL.block (ho.2.1 q hq) g hg
          have h2 := (World.ownsRow.lt ho1 g hg').1
          omega
        · intro g hg hg'
          have h1 := (World.ownsRow.lt ho.1 g hg).2
          have h2 := (World.ownsRow.lt ho1 g hg').1
          omega
      go_roundw
      case rel => exact ⟨a', ps ++ [(⟨k, nm, ver, d⟩, .slice A1 d.length c1)], by omega, by go_num, hfin, by simpa [Hid] using hs'.out, ht', he2⟩
      case measure => simp [intOf]; omega
end Go.Proofs.Ytcaeeoghkonniaa
