/- EncodeRecord of the program and of the reference; BigEndian of two bytes. -/
import Derived.Test.YtcaeeoghkonniaaSum
import Derived.Test.YtcaeeoghkonniaaEncPure
import Derived.Test.YtcaeeoghkonniaaRun
import Derived.Test.YtcaeeoghkonniaaPack
import Derived.Test.YtcaeeoghkonniaaValidRec
import Derived.Lib.AppendStr
import Derived.Lib.ConvBytes
namespace Go.Proofs.Ytcaeeoghkonniaa
open Go.RowKit Go.Sort

section
variable {P : Program} {ops : Array Oper} {rest : List Oper} {o : Oper} {a : Act} {Q : Exit → Act → World → Prop}
/-- append(s, str...) onto bytes of the call's own -/
theorem wpList_appS (hgd : o.guard = none) (s x : Operand) (t u : TypeId) (ho : o.op = .call { callee := .builtin .append, args := #[s, x], argTypes := #[t, u] })
    {e : TypeId} (hE : Elem P t e 1 1 (.int .u8 0)) (hu : P.underlying u = some .string) (w0 w : World) (v : Value) (hs : a.eval s = v) (st : ByteArray) (hx : a.eval x = .string st)
    (l : List UInt8) (hown : OwnL vu8 e w0 w v l) (he : Ext w0 w) (hb : l.length + st.size ≤ 140737488355328)
    (h : ∀ v' w', OwnL vu8 e w0 w' v' (l ++ st.data.toList) → Ext w0 w' → wpList P ops Q rest (a.put o.dst v') w') :
    wpList P ops Q (o :: rest) a w := by
  obtain ⟨i0, hi0, hz0, hz1, hz2⟩ := info_parts hE.hi
  refine Lib.wpList_append_own_string w hgd s x t u ho w0.heap.size e i0 hE.ht hu hi0 hz0 hz1 hz2 v l.length (l.map vu8) hs hown st hx (by simp only [maxLen]; omega) hb he.size ?_
  intro v' w' h1 h2 _
  refine h v' w' ?_ (he.grown h2 (fun k hk => (hown.lt k hk).1))
  have hsz : st.data.toList.length = st.size := by simp
  unfold OwnL
  rw [List.length_append, hsz, List.map_append]
  exact h1
/-- []byte(s) -/
theorem wpList_bytesOf (hgd : o.guard = none) (x : Operand) (src dst : TypeId) (ho : o.op = .convert src dst x) {e : TypeId} (hs : P.underlying src = some .string) (hd : P.underlying dst = some (.slice e)) (he : P.underlying e = some (.int .u8))
    (w : World) (st : ByteArray) (hx : a.eval x = .string st) (hsz : st.size ≤ 140737488351232)
    (h : ∀ c w', Bs w' (some ⟨w.heap.size, 0, none⟩) st.data.toList c → Ext w w' → wpList P ops Q rest (a.put o.dst (.slice (some ⟨w.heap.size, 0, none⟩) st.size c)) w') :
    wpList P ops Q (o :: rest) a w := by
  refine wpList_plain hgd fun K hK => ?_
  unfold Oper.wp execOp
  simp only [ho, hx, Sem.run_bind, Lib.run_convert_string_bytes w src dst e st hs hd he, Result.andThen_ok, Sem.run_pure]
  have hE : Ext w (Lib.bytesWorld w e st) := by
    refine ⟨rfl, rfl, rfl, by rw [Lib.bytesWorld_size]; omega, fun k hk => Lib.bytesWorld_at_old w e st k hk⟩
  have hsz' : st.data.toList.length = st.size := by simp
  refine hK _ _ (h _ _ ⟨⟨by rw [hsz']; exact grownCap_ge w _ _ _, by omega, fun hp => ⟨_, _, rfl, by rw [Lib.bytesWorld_size]; omega, fun w' e' i hi => ?_⟩⟩, by omega⟩ hE)
  have h1 := Lib.bytesWorld_cell w e st i (by omega)
  rw [e'.cell (by rw [Lib.bytesWorld_size]; show w.heap.size < _; omega)]
  rw [Nat.zero_add, h1]
  have hi' : i < st.data.size := by simpa using hi
  simp only [vu8, List.getD, Array.getElem?_toList, Array.getElem?_eq_getElem hi', Option.getD_some, Array.getElem_toList]
end

/-- the cells of a slice, as the laws on append ask for them -/
theorem Rd.src {α : Type} {f : α → Value} {w w' : World} {A : Option Addr} {l : List α} {c : Nat} (h : Rd f w A l c) (e : Ext w w') :
    0 < l.length → ∃ ad, A = some ad ∧ ∀ j u, (l.map f)[j]? = some u → w'.cell? (ad.add j) = some u := by
  intro hp
  obtain ⟨b, off, h1, _, h3⟩ := h.base hp
  refine ⟨_, h1, fun j u hu => ?_⟩
  have := part_cells (h3 w' e) 0 l.length j u (by simpa using hu)
  simpa using this
/-- a row of the call's own since a later world is one since an elder one -/
theorem OwnL.lower {α : Type} {f : α → Value} {e : TypeId} {w0 w1 w : World} {v : Value} {l : List α} (h : OwnL f e w1 w v l) (k : Ext w0 w1) : OwnL f e w0 w v l := World.ownsRow.lower h k.size

set_option maxHeartbeats 400000 in
theorem l2Power2_c (w : World) : Gives Try.prog 66 #[.int .i64 2] w (.int .i64 65536) := by
  go_enter Try.func66, Try.ntmps66
  go_wp2
  go_ret
  exact ⟨rfl, Ext.refl _⟩
set_option maxRecDepth 100000 in
set_option maxHeartbeats 1000000 in
theorem BigEndian2_c (n : Nat) (w : World) (hn : n ≤ 65535) :
    Calls Try.prog 58 #[.int .i64 n, .int .i64 2] w fun e w' => ∃ v, e = .returned v ∧ OwnL vu8 5 w w' v (be2 n) ∧ Ext w w' := by
  have hq : (decide ((0 : Int) ≤ (n : Int)) && decide ((n : Int) ≤ 65535)) = true := by simp; omega
  have HQ := Lib.hid hq; clear hq
  go_enter Try.func58, Try.ntmps58
  go_wp2_with (first
    | (go_at_call 66; refine (l2Power2_c _).mono ?_; rintro _ w2 ⟨rfl, he2⟩)
    | (go_at_call 26; refine (l1In_c _ _ _ _).mono ?_; rintro _ w1 ⟨rfl, he1⟩; try rw [HQ.out]))
  have he4 := (‹Ext (w.alloc (.cells #[] 5)) _›.trans he2).trans he1
  go_loopw [5, 6] (fun t i wr => ∃ k : Nat, k ≤ 2 ∧ i = .int .i64 (1 - k) ∧ OwnL vu8 5 w wr t ((be2 n).take k) ∧ Ext w wr) (fun _ i _ => (intOf i + 1).toNat)
  case atStart => exact ⟨0, by omega, rfl, (OwnL.empty (Ext.refl _)).ext he4, (Ext_alloc _ (Ext.refl _)).trans he4⟩
  case round =>
    clear he4 he1 he2
    obtain ⟨k, hk, rfl, ho, he⟩ := hrel
    have HB : ∀ x : UInt8, Hid ((((be2 n).take k).length + [x].length) * 1 ≤ 140737488355328) := by intro x; show _ ≤ _; have := List.length_take_le k (be2 n); simp at this ⊢; omega
    have H0 : Hid (#[Value.int .u8 ((n : Int) / 256)] = ([UInt8.ofNat (n / 256)].map vu8).toArray) := by
      show _ = _
      have : (UInt8.ofNat (n / 256)).toNat = n / 256 := by rw [UInt8.toNat_ofNat']; omega
      simp [vu8, this]
    have H1 : Hid (#[Value.int .u8 ((n : Int) % 256)] = ([UInt8.ofNat n].map vu8).toArray) := by
      show _ = _
      have : (UInt8.ofNat n).toNat = n % 256 := by rw [UInt8.toNat_ofNat']
      simp [vu8, this]
    rcases (by omega : k = 0 ∨ k = 1 ∨ k = 2) with rfl | rfl | rfl
    · go_wp2_with (first
        | (at_builtin; go_must (refine wpList_appN rfl (.tmp 26) (.tmp 32) _ rfl E_u8 (by omega) w _ vu8 (fun _ => rfl) _ rfl _ _ rfl ((be2 n).take 0) [UInt8.ofNat (n / 256)] _ H0.out ho he rfl (HB _).out ?_); intro v1 w1 ho1 he1))
      go_roundw
      case rel => exact ⟨1, by omega, rfl, ho1, he1⟩
      case measure => simp [intOf]
    · go_wp2_with (first
        | (at_builtin; go_must (refine wpList_appN rfl (.tmp 26) (.tmp 32) _ rfl E_u8 (by omega) w _ vu8 (fun _ => rfl) _ rfl _ _ rfl ((be2 n).take 1) [UInt8.ofNat n] _ H1.out ho he rfl (HB _).out ?_); intro v1 w1 ho1 he1))
      go_roundw
      case rel => exact ⟨2, by omega, rfl, ho1, he1⟩
      case measure => simp [intOf]
    · go_wp2
      go_ret
      exact ⟨_, rfl, ho, he⟩
end Go.Proofs.Ytcaeeoghkonniaa
