/- The drawn bytes of packing and of runs. -/
import Derived.Test.YtcaeeoghkonniaaDraw
namespace Go.Proofs.Ytcaeeoghkonniaa
open Go.RowKit Go.Sort

theorem Cur.kept {wb w w' : World} {p : Nat} {A : Option Addr} {l : List UInt8} {c : Nat} (h : Cur wb w p A l c) {row : Option Nat} (hg : w.grownBy w' row) (hne : row ≠ some p) (e : Ext wb w') : Cur wb w' p A l c := by
  obtain ⟨h1, _, i, x, h3, h4⟩ := h
  exact ⟨h1, e, i, x, h3, (hg.block p (Array.getElem?_eq_some_iff.1 h4).1 (fun he => hne he.symm)).trans h4⟩
theorem Cur.ext {wb w w' : World} {p : Nat} {A : Option Addr} {l : List UInt8} {c : Nat} (h : Cur wb w p A l c) (e : Ext w w') : Cur wb w' p A l c :=
  ⟨h.1, h.2.1.trans e, let ⟨i, x, h3, h4⟩ := h.2.2; ⟨i, x, h3, heap_ext' h4 e⟩⟩
theorem Cur.lt {wb w : World} {p : Nat} {A : Option Addr} {l : List UInt8} {c : Nat} (h : Cur wb w p A l c) : p < w.heap.size := let ⟨_, _, _, h4⟩ := h.2.2; (Array.getElem?_eq_some_iff.1 h4).1
/-- a row of the call's own stays while the cursor moves -/
theorem OwnL.moved {α : Type} {f : α → Value} {e : TypeId} {w0 w w' : World} {v : Value} {l : List α} (h : OwnL f e w0 w v l) {p : Nat} (hg : w.grownBy w' (some p)) (hne : v.ownBlock ≠ some p) : OwnL f e w0 w' v l := by
  refine World.ownsRow.kept h hg ?_
  cases hb : v.ownBlock with
  | none => exact .inl rfl
  | some g => right; rw [hb] at hne; exact fun he => hne he
section
variable {P : Program} {ops : Array Oper} {rest : List Oper} {o : Oper} {a : Act} {Q : Exit → Act → World → Prop}
/-- append(s, y1, .., ym) onto a row that is not the cursor's -/
theorem wpList_appC (hgd : o.guard = none) (s x : Operand) (t : TypeId) (ho : o.op = .call { callee := .builtin .append, args := #[s, x], argTypes := #[t, t] })
    {e : TypeId} {bytes : Nat} {z : Value} (hE : Elem P t e 1 bytes z) (hby : 1 ≤ bytes) (w0 w : World) {α : Type} (f : α → Value) (hf : ∀ x, (f x).oneCell' = true) (v : Value) (hs : a.eval s = v) (m c : Nat) (hx : a.eval x = .slice (some ⟨w.heap.size, 0, none⟩) m c)
    (l ys : List α) (cs : Array Value) (hcs : cs = (ys.map f).toArray) (hown : OwnL f e w0 w v l) (he : Ext w0 w) (hm : m = ys.length)
    (hb : (l.length + ys.length) * bytes ≤ 140737488355328) (p : Nat) (hp : p < w.heap.size) (hne : v.ownBlock ≠ some p)
    (h : ∀ v' w', OwnL f e w0 w' v' (l ++ ys) → Ext w0 w' → v'.ownBlock ≠ some p → w.grownBy w' v.ownBlock → (∀ B, B ≤ w.heap.size → (∀ g, v.ownBlock = some g → B ≤ g) → ∀ g, v'.ownBlock = some g → B ≤ g) → (v'.ownBlock = v.ownBlock ∨ v'.ownBlock = some (w.heap.size + 1)) → wpList P ops Q rest (a.put o.dst v') w') :
    wpList P ops Q (o :: rest) a (w.alloc (.cells cs e)) := by
  subst hcs
  refine wpList_appL hgd s x t ho hE hby w0 _ f hf v hs (some ⟨w.heap.size, 0, none⟩) m c hx l ys (hown.ext (Ext_alloc _ (Ext.refl w))) (Ext_alloc _ he) hm (fun _ => ⟨_, rfl, fun j u hu => ?_⟩) hb (fun v' w' h1 h2 h3 h4 => h v' w' h1 h2 ?_ ((World.grownBy_alloc w _ _).trans h4) ?_ (by simpa using h3))
  · rw [World.cell?_alloc_at']; exact hu
  · rcases h3 with h3 | h3
    · rw [h3]; exact hne
    · rw [h3]; intro hh; injection hh with hh; simp at hh; omega
  · intro B hB hv g hg
    rcases h3 with h3 | h3
    · exact hv g (h3 ▸ hg)
    · rw [h3] at hg; injection hg with hg; simp at hg; omega
end
theorem nb {B p : Nat} {v : Value} (hp : p < B) (h : ∀ g, v.ownBlock = some g → B ≤ g) : v.ownBlock ≠ some p := fun hh => by have := h p hh; omega
theorem grown_own {w wr w4 : World} {p : Nat} {v : Value} (h : w.grownBy wr (some p)) (hv : ∀ g, v.ownBlock = some g → w.heap.size ≤ g) (hg : wr.grownBy w4 v.ownBlock) : w.grownBy w4 (some p) :=
  ⟨hg.os.trans h.os, hg.tape.trans h.tape, hg.output.trans h.output, Nat.le_trans h.size hg.size, fun k hk hne => (hg.block k (Nat.lt_of_lt_of_le hk h.size) (fun he => by have := hv k he.symm; omega)).trans (h.block k hk hne)⟩
set_option maxRecDepth 100000 in
set_option maxHeartbeats 4000000 in
theorem l32Bytes_c (wb w : World) (p : Nat) (A : Option Addr) (l : List UInt8) (c : Nat) (hA : Bs wb A l c) (hC : Cur wb w p A l c) :
    Calls Try.prog 60 #[.pointer (some ⟨p, 0, none⟩)] w fun e w' => ∃ v q, q.length ≤ 790 ∧ e = .returned v ∧ OwnL vu8 5 wb w' v q ∧ (∀ g, v.ownBlock = some g → w.heap.size ≤ g) ∧ Cur wb w' p A l c ∧ w.grownBy w' (some p) := by
  have CBe := Lib.hid (fun n w h hn => l1Below_c n wb w p A l c hA h hn)
  have COn := Lib.hid (fun n w h hn => l1Once_c n wb w p A l c hA h hn)
  have CIn : Hid (∀ w, Cur wb w p A l c → Calls Try.prog 21 #[.pointer (some ⟨p, 0, none⟩), .slice (some ⟨w.heap.size, 0, none⟩) 6 6] (w.alloc (.cells #[.int .i64 1, .int .i64 1, .int .i64 2, .int .i64 3, .int .i64 5, .int .i64 130] 3)) fun e w' => ∃ x : Int, x ≤ 130 ∧ e = .returned (.int .i64 x) ∧ Cur wb w' p A l c ∧ w.grownBy w' (some p)) := by
    intro w hC
    have hC' := hC.ext (Ext_alloc (.cells #[.int .i64 1, .int .i64 1, .int .i64 2, .int .i64 3, .int .i64 5, .int .i64 130] 3) (Ext.refl w))
    have hlt := hC.lt
    refine (l1Int_c (some ⟨w.heap.size, 0, none⟩) [1, 1, 2, 3, 5, 130] 6 (by simp) (by simp) wb _ p A l c hA hC' ?_).mono ?_
    · intro w' hg i hi
      refine ⟨w.heap.size, 0, rfl, ?_⟩
      have h0 := boxed (Ext.refl (w.alloc (.cells #[.int .i64 1, .int .i64 1, .int .i64 2, .int .i64 3, .int .i64 5, .int .i64 130] 3))) (0 + i)
      refine hg.cell (a := ⟨w.heap.size, 0 + i, none⟩) (h0.trans ?_) (by intro hh; injection hh with hh; simp at hh; omega)
      have hi6 : i < 6 := by simpa using hi
      rcases (by omega : i = 0 ∨ i = 1 ∨ i = 2 ∨ i = 3 ∨ i = 4 ∨ i = 5) with rfl | rfl | rfl | rfl | rfl | rfl <;> rfl
    · rintro e w' ⟨x, hx, he, hC1, hg⟩
      refine ⟨x, ?_, he, hC1, (World.grownBy_alloc w _ _).trans hg⟩
      simp at hx; omega
  have hplt := hC.lt
  go_enter Try.func60, Try.ntmps60
  go_wp2_with fail
  refine (CBe.out 6 _ (hC.ext (Ext_alloc _ (Ext.refl w))) (by omega)).mono ?_; rintro _ w1 ⟨x, hx, rfl, hC1, hg1⟩
  have hx5 : x ≤ 5 := by unfold below at hx; rw [if_neg (by omega)] at hx; omega
  have ho1 : OwnL vu8 5 wb w1 (.slice (some ⟨w.heap.size, 0, none⟩) 0 0) [] := by
    refine OwnL.moved (OwnL.empty hC.2.1) hg1 ?_
    intro hh; injection hh with hh; have := hC.lt; simp at hh; omega
  have hn1 : Hid (∀ g, (Value.slice (some ⟨w.heap.size, 0, none⟩) 0 0).ownBlock = some g → w.heap.size ≤ g) := by
    intro g hh; injection hh with hh; simp at hh; omega
  have hw1 := (World.grownBy_alloc w (.cells #[] 5) (some p)).trans hg1
  go_wp2_with fail
  go_loopw [3, 4] (fun t i wr => ∃ (k : Nat) (q : List UInt8), k ≤ 5 ∧ i = .int .i64 k ∧ q.length + 130 * k ≤ 650 ∧ Hid (∀ g, t.ownBlock = some g → w.heap.size ≤ g) ∧ w.grownBy wr (some p) ∧ OwnL vu8 5 wb wr t q ∧ Cur wb wr p A l c) (fun _ i _ => (intOf i).toNat)
  case atStart => exact ⟨x, [], hx5, rfl, by simp; omega, hn1, hw1, ho1, hC1⟩
  case round =>
    clear hn1 ho1 hC1 hw1 hg1 hx hx5
    obtain ⟨k, q, hk, rfl, hq, hn, hgr, ho, hCr⟩ := hrel
    by_cases h0 : 0 < k
    · go_wp2_with fail
      refine (CBe.out 4 _ hCr (by omega)).mono ?_; rintro _ w2 ⟨y, hy, rfl, hC2, hg2⟩
      have hy3 : y ≤ 3 := by unfold below at hy; rw [if_neg (by omega)] at hy; omega
      have ho2 := OwnL.moved ho hg2 (nb hplt hn.out)
      have hgb := hgr.trans hg2
      clear hCr hg2 ho hgr
      go_wp2_with fail
      refine (CIn.out _ hC2).mono ?_; rintro _ w3 ⟨z, hz, rfl, hC3, hg3⟩
      have ho3 := OwnL.moved ho2 hg3 (nb hplt hn.out)
      have hgc := hgb.trans hg3
      clear hC2 hg3 ho2 hgb
      go_wp2_with fail
      go_loopw [3, 6] (fun t j wr => ∃ (m : Int) (q' : List UInt8), m ≤ 130 ∧ j = .int .i64 m ∧ (q'.length : Int) + max m 0 ≤ q.length + 130 ∧ Hid (∀ g, t.ownBlock = some g → w.heap.size ≤ g) ∧ w.grownBy wr (some p) ∧ OwnL vu8 5 wb wr t q' ∧ Cur wb wr p A l c) (fun _ j _ => (intOf j).toNat)
      case atStart => exact ⟨z, q, hz, rfl, by omega, hn, hgc, ho3, hC3⟩
      case round =>
        clear hn ho3 hC3 hgc
        obtain ⟨m, q', hm, rfl, hq', hn, hgr, ho, hCr⟩ := hrel
        by_cases hm0 : 0 < m
        · have HB : Hid ((q'.length + [UInt8.ofNat y].length) * 1 ≤ 140737488355328) := by show _ ≤ _; simp; omega
          have HCS : Hid (#[Value.int .u8 (y : Int)] = ([UInt8.ofNat y].map vu8).toArray) := by
            show _ = _
            have : (UInt8.ofNat y).toNat = y := by rw [UInt8.toNat_ofNat']; omega
            simp [vu8, this]
          go_wp2_with (first
            | (at_builtin; refine wpList_appC rfl (.tmp 25) (.tmp 27) _ rfl E_u8 (by omega) wb _ vu8 (fun _ => rfl) _ rfl _ _ rfl q' [UInt8.ofNat y] _ HCS.out ho hCr.2.1 rfl HB.out p hCr.lt (nb hplt hn.out) ?_; intro v4 w4 ho4 he4 hn4 hg4 hb4 _))
          have hC4 := Cur.kept hCr hg4 (nb hplt hn.out) he4
          have hg' := grown_own hgr hn.out hg4
          have hn' := Lib.hid (hb4 _ hgr.size hn.out)
          clear ho hCr hg4 hb4 hn4
          go_wp2_with fail
          go_roundw
          case rel => exact ⟨m - 1, q' ++ [UInt8.ofNat y], by omega, by go_num, by simp; omega, hn', hg', ho4, hC4⟩
          case measure => simp [intOf]; omega
        · go_wp2_with fail
          go_roundw
          case rel => exact ⟨k - 1, q', by omega, by go_num, by omega, hn, hgr, ho, hCr⟩
          case measure => simp [intOf]; omega
    · go_wp2_with fail
      refine (COn.out 6 _ hCr (by omega)).mono ?_; rintro _ w2 ⟨y, rfl, hC2, hg2⟩
      have ho2 := OwnL.moved ho hg2 (nb hplt hn.out)
      have hgb := hgr.trans hg2
      clear hCr hg2 ho hgr
      cases y
      · go_wp2_with fail
        go_ret
        exact ⟨_, q, by omega, rfl, ho2, hn.out, hC2, hgb⟩
      · go_wp2_with fail
        go_loopw [3, 7] (fun t j wr => ∃ (m : Nat) (q' : List UInt8), m ≤ 140 ∧ j = .int .i64 m ∧ q'.length ≤ 650 + m ∧ Hid (∀ g, t.ownBlock = some g → w.heap.size ≤ g) ∧ w.grownBy wr (some p) ∧ OwnL vu8 5 wb wr t q' ∧ Cur wb wr p A l c) (fun _ j _ => 140 - (intOf j).toNat)
        case atStart => exact ⟨0, q, by omega, rfl, by omega, hn, hgb, ho2, hC2⟩
        case round =>
          clear hn ho2 hC2 hgb
          obtain ⟨m, q', hm, rfl, hq', hn, hgr, ho, hCr⟩ := hrel
          by_cases hm0 : m < 140
          · have HB : Hid ((q'.length + [UInt8.ofNat m].length) * 1 ≤ 140737488355328) := by show _ ≤ _; simp; omega
            have HCS : Hid (#[Value.int .u8 (m : Int)] = ([UInt8.ofNat m].map vu8).toArray) := by
              show _ = _
              have : (UInt8.ofNat m).toNat = m := by rw [UInt8.toNat_ofNat']; omega
              simp [vu8, this]
            go_wp2_with (first
              | (at_builtin; refine wpList_appC rfl (.tmp 35) (.tmp 38) _ rfl E_u8 (by omega) wb _ vu8 (fun _ => rfl) _ rfl _ _ rfl q' [UInt8.ofNat m] _ HCS.out ho hCr.2.1 rfl HB.out p hCr.lt (nb hplt hn.out) ?_; intro v4 w4 ho4 he4 hn4 hg4 hb4 _))
            have hC4 := Cur.kept hCr hg4 (nb hplt hn.out) he4
            have hg' := grown_own hgr hn.out hg4
            have hn' := Lib.hid (hb4 _ hgr.size hn.out)
            clear ho hCr hg4 hb4 hn4
            go_wp2_with fail
            go_roundw
            case rel => exact ⟨m + 1, q' ++ [UInt8.ofNat m], by omega, by go_num, by simp; omega, hn', hg', ho4, hC4⟩
            case measure => simp [intOf]; omega
          · go_wp2_with fail
            go_ret
            exact ⟨_, q', by omega, rfl, ho, hn.out, hCr, hgr⟩
end Go.Proofs.Ytcaeeoghkonniaa
