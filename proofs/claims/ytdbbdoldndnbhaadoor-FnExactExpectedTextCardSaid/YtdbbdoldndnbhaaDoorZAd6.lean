/- The tables that the rows of this seat list, as a call finds them. -/
import Derived.Test.YtdbbdoldndnbhaaDoorZAd5
import Derived.Test.YtdbbdoldndnbhaaDoorRows
import Derived.Stop.LaidErr
import Derived.LaidLaws
import Derived.Lib.Join
namespace Go.Proofs.YtdbbdoldndnbhaaDoor
open Go.RowKit

noncomputable def laidWorld (os : Os) : World :=
  { World.holding Tryd.prog os ⟨#[], #[], []⟩ with heap := ((((World.holding Tryd.prog os ⟨#[], #[], []⟩).heap.modify 2 fun
      | .cells _ t frozen => .cells #[.int .u8 0, .int .u8 1, .int .u8 28, .int .u8 2, .int .u8 29, .int .u8 14, .int .u8 24, .int .u8 3, .int .u8 30, .int .u8 22, .int .u8 20, .int .u8 15, .int .u8 25, .int .u8 17, .int .u8 4, .int .u8 8, .int .u8 31, .int .u8 27, .int .u8 13, .int .u8 23, .int .u8 21, .int .u8 19, .int .u8 16, .int .u8 7, .int .u8 26, .int .u8 12, .int .u8 18, .int .u8 6, .int .u8 11, .int .u8 5, .int .u8 10, .int .u8 9] t frozen
      | o => o).modify 3 fun
      | .cells _ t frozen => .cells #[.int .u8 0, .int .u8 1, .int .u8 56, .int .u8 2, .int .u8 57, .int .u8 49, .int .u8 28, .int .u8 3, .int .u8 61, .int .u8 58, .int .u8 42, .int .u8 50, .int .u8 38, .int .u8 29, .int .u8 17, .int .u8 4, .int .u8 62, .int .u8 47, .int .u8 59, .int .u8 36, .int .u8 45, .int .u8 43, .int .u8 51, .int .u8 22, .int .u8 53, .int .u8 39, .int .u8 33, .int .u8 30, .int .u8 24, .int .u8 18, .int .u8 12, .int .u8 5, .int .u8 63, .int .u8 55, .int .u8 48, .int .u8 27, .int .u8 60, .int .u8 41, .int .u8 37, .int .u8 16, .int .u8 46, .int .u8 35, .int .u8 44, .int .u8 21, .int .u8 52, .int .u8 32, .int .u8 23, .int .u8 11, .int .u8 54, .int .u8 26, .int .u8 40, .int .u8 15, .int .u8 34, .int .u8 20, .int .u8 31, .int .u8 10, .int .u8 25, .int .u8 14, .int .u8 19, .int .u8 9, .int .u8 13, .int .u8 8, .int .u8 7, .int .u8 6] t frozen
      | o => o).modify 0 fun
      | .cells _ t frozen => .cells #[.int .u64 1, .int .u64 10, .int .u64 100, .int .u64 1000, .int .u64 10000, .int .u64 100000, .int .u64 1000000, .int .u64 10000000, .int .u64 100000000, .int .u64 1000000000, .int .u64 10000000000, .int .u64 100000000000, .int .u64 1000000000000, .int .u64 10000000000000, .int .u64 100000000000000, .int .u64 1000000000000000, .int .u64 10000000000000000, .int .u64 100000000000000000, .int .u64 1000000000000000000, .int .u64 10000000000000000000] t frozen
      | o => o) }
def doorList : List (String × DataW Unit) := [("math/bits.deBruijn32tab", Rows.laid_math_bits_deBruijn32tab), ("math/bits.deBruijn64tab", Rows.laid_math_bits_deBruijn64tab), ("internal/strconv.uint64pow10", Rows.laid_internal_strconv_uint64pow10)]
theorem gTab : Tryd.prog.globalNamed "internal/strconv.uint64pow10" = some 0 := by kernel_rfl
theorem gTabType : (Tryd.prog.globals[0]?).map (·.type) = some 142 := by kernel_rfl
theorem cellsTab : Tryd.prog.cellsOf 142 = 20 := by kernel_rfl
theorem cellsU64 : Tryd.prog.cellsOf 133 = 1 := by kernel_rfl
theorem tab_of_laid {W : World} (h : laidMetH Tryd.prog doorList W) : Tab W := by
  have h0 : laidMet Tryd.prog doorList W := h
  have h1 : laidMet Tryd.prog [("internal/strconv.uint64pow10", Lib.tabData .u64 Lib.pow10Tab)] W := h0.tail.tail
  exact Lib.tabIs_of_head (rest := []) gTab gTabType Tryd.underlying142 Tryd.underlying133 cellsU64 cellsTab h1
end Go.Proofs.YtdbbdoldndnbhaaDoor

/- The hexadecimal digits: FormatHex of both sides. -/
namespace Go.Proofs.YtdbbdoldndnbhaaDoor
open Go.RowKit Go.Sort

def hxD (n : Nat) : UInt8 := if n < 10 then UInt8.ofNat (48 + n) else UInt8.ofNat (87 + n)
def hxL (l : List UInt8) : List UInt8 := l.flatMap fun c => [hxD (c.toNat / 16), hxD (c.toNat % 16)]
def hxB (l : List UInt8) : ByteArray := ⟨(hxL l).toArray⟩
theorem hxL_len (l : List UInt8) : (hxL l).length = 2 * l.length := by
  unfold hxL
  induction l with
  | nil => rfl
  | cons a s ih => simp only [List.flatMap_cons, List.length_append, List.length_cons, List.length_nil] at *; omega
theorem hxL_snoc (l : List UInt8) (c : UInt8) : hxL (l ++ [c]) = hxL l ++ [hxD (c.toNat / 16), hxD (c.toNat % 16)] := by unfold hxL; simp
def hexDigs : ByteArray := ⟨#[48, 49, 50, 51, 52, 53, 54, 55, 56, 57, 97, 98, 99, 100, 101, 102]⟩
theorem hexDigs_ext : ∀ h : Fin 16, hexDigs.extract h.val (h.val + 1) = ⟨#[hxD h.val]⟩ := by decide
theorem hexDigs_get : ∀ (a : Nat) (h : a < 16) (h' : a < (⟨#[48, 49, 50, 51, 52, 53, 54, 55, 56, 57, 97, 98, 99, 100, 101, 102]⟩ : ByteArray).size), (⟨#[48, 49, 50, 51, 52, 53, 54, 55, 56, 57, 97, 98, 99, 100, 101, 102]⟩ : ByteArray)[a]'h' = hxD a := fun a h h' => by
  have : ∀ a : Fin 16, (⟨#[48, 49, 50, 51, 52, 53, 54, 55, 56, 57, 97, 98, 99, 100, 101, 102]⟩ : ByteArray)[a.val]'(by have := a.isLt; show _ < 16; omega) = hxD a.val := by decide
  exact this ⟨a, h⟩
theorem and15 : ∀ x : Fin 256, bits BinOp.and IntKind.u8 ((x.val : Nat) : Int) 15 = ((x.val % 16 : Nat) : Int) := by decide +kernel
theorem hexDigs_at : ∀ h : Fin 16, hexDigs.data[h.val]? = some (hxD h.val) := by decide
set_option maxRecDepth 100000 in
set_option maxHeartbeats 1000000 in
theorem sFormatHex_c (A : Option Addr) (l : List UInt8) (c : Nat) (w : World) (h : Bs w A l c) (hL : l.length ≤ 1099511627776) :
    Gives Tryd.prog 55 #[.slice A l.length c] w (.string (hxB l)) := by
  have HH := Lib.hid h; clear h
  go_enter Tryd.func55, Tryd.ntmps55
  go_wp2
  go_loopw [5, 4] (fun i s wr => ∃ k : Nat, k ≤ l.length ∧ i = .int .i64 k ∧ s = .string (hxB (l.take k)) ∧ Ext w wr) (fun i _ _ => l.length - (intOf i).toNat)
  case atStart => exact ⟨0, by omega, rfl, rfl, Ext.refl _⟩
  case round =>
    obtain ⟨k, hk, rfl, rfl, he⟩ := hrel
    by_cases hlt : k < l.length
    · obtain ⟨b, off, rfl, hb, hc⟩ := HH.out.at k hlt
      have hT : Hid (hxB (l.take (k + 1)) = hxB (l.take k) ++ (⟨#[hxD (l[k].toNat / 16)]⟩ ++ ⟨#[hxD (l[k].toNat % 16)]⟩)) := by
        show _ = _
        unfold hxB
        rw [List.take_succ_eq_append_getElem hlt, hxL_snoc]
        apply ByteArray.ext
        simp [ByteArray.data_append]
      have hsz : (hxB (l.take k)).size = 2 * k := by
        show (hxL (l.take k)).toArray.size = _
        rw [List.size_toArray, hxL_len, List.length_take]; omega
      have HSZ := Lib.hid hsz
      have hszb : (hxB (l.take k)).size ≤ 2199023255552 := by omega
      clear hsz
      generalize hxB (l.take k) = s at *
      obtain ⟨x, hx⟩ : ∃ x : Nat, l[k].toNat = x := ⟨_, rfl⟩
      have hx2 : x < 256 := by rw [← hx]; exact l[k].toNat_lt
      have hcx : ∀ w', Ext w w' → w'.cell? ⟨b, off + k, none⟩ = some (.int .u8 (x : Int)) := fun w' e => by rw [hc w' e, vu8, hx]
      rw [hx] at hT
      clear hc hx
      have q1 : ((x : Int) / 16).toNat = x / 16 := by omega
      have e1 : hexDigs.extract (x / 16) (x / 16 + 1) = ⟨#[hxD (x / 16)]⟩ := hexDigs_ext ⟨x / 16, by omega⟩
      have e2 : hexDigs.extract (x % 16) (x % 16 + 1) = ⟨#[hxD (x % 16)]⟩ := hexDigs_ext ⟨x % 16, by omega⟩
      unfold hexDigs at e1 e2
      have E1 := Lib.hid e1; have E2 := Lib.hid e2
      clear e1 e2
      have b1 : (k : Int) < (l.length : Int) := by omega
      have cw := hcx wr he
      go_wp2_with fail
      refine wp_region_quiet_below (by kernel_rfl) (by kernel_rfl) ?_
      repeat (go_big_quiet_step (fail))
      refine wpQuiet_nil ?_
      rintro w1 ⟨⟨nq, osq⟩, hq⟩
      have ew1 := ext_of_q hq
      clear hq nq osq
      go_wp2
      go_roundw
      case rel => exact ⟨k + 1, by omega, by go_num, by rw [hT.out, E1.out, E2.out, ByteArray.append_assoc], he.trans ew1⟩
      case measure => simp [intOf]; omega
    · obtain rfl : k = l.length := by omega
      go_wp2
      go_ret
      rw [List.take_length]
      exact ⟨rfl, he⟩
set_option maxRecDepth 100000 in
set_option maxHeartbeats 1000000 in
theorem iFormatHex_c (A : Option Addr) (l : List UInt8) (c : Nat) (w : World) (h : Bs w A l c) (hL : l.length ≤ 1099511627776) :
    Gives Tryd.prog 58 #[.slice A l.length c] w (.string (hxB l)) := by
  have HH := Lib.hid h; clear h
  go_enter Tryd.func58, Tryd.ntmps58
  go_wp2_with (at_make; go_must (refine wpList_mk0 rfl _ _ _ rfl E_u8 w w (Ext.refl w) (2 * l.length) rfl (by go_num) (by omega) (by simp [maxLen]; omega) ?_); intro w1 ho he)
  have HO : Hid (OwnL vu8 5 w w1 (.slice (some ⟨w.heap.size, 0, none⟩) 0 (2 * l.length)) (hxL (l.take 0))) := ho
  clear ho
  go_loopw [12, 3] (fun i s wr => ∃ k : Nat, k ≤ l.length ∧ i = .int .i64 k ∧ OwnL vu8 5 w wr s (hxL (l.take k)) ∧ Ext w wr) (fun i _ _ => l.length - (intOf i).toNat)
  case atStart => exact ⟨0, by omega, rfl, HO.out, he⟩
  case round =>
    clear he HO
    obtain ⟨k, hk, rfl, ho, he⟩ := hrel
    by_cases hlt : k < l.length
    · obtain ⟨b, off, rfl, hb, hc⟩ := HH.out.at k hlt
      have hT : Hid (hxL (l.take (k + 1)) = hxL (l.take k) ++ [hxD (l[k].toNat / 16), hxD (l[k].toNat % 16)]) := by
        show _ = _
        rw [List.take_succ_eq_append_getElem hlt, hxL_snoc]
      have hsz : (hxL (l.take k)).length = 2 * k := by rw [hxL_len, List.length_take]; omega
      have HSZ := Lib.hid hsz
      clear hsz
      have HO := Lib.hid ho; clear ho
      generalize hxL (l.take k) = s at *
      obtain ⟨x, hx⟩ : ∃ x : Nat, l[k].toNat = x := ⟨_, rfl⟩
      have hx2 : x < 256 := by rw [← hx]; exact l[k].toNat_lt
      have hcx : ∀ w', Ext w w' → w'.cell? ⟨b, off + k, none⟩ = some (.int .u8 (x : Int)) := fun w' e => by rw [hc w' e, vu8, hx]
      rw [hx] at hT
      clear hc hx
      have b1 : (k : Int) < (l.length : Int) := by omega
      have cw := hcx wr he
      have hr := and15 ⟨x, hx2⟩
      have hq : (x : Int) / 16 = ((x / 16 : Nat) : Int) := by omega
      dsimp only at hr
      obtain ⟨a, ha⟩ : ∃ a, x / 16 = a := ⟨_, rfl⟩
      obtain ⟨m, hm⟩ : ∃ m, x % 16 = m := ⟨_, rfl⟩
      have ha2 : a < 16 := by omega
      have hm2 : m < 16 := by omega
      rw [ha] at hq hT; rw [hm] at hr hT
      have ga := fun h' => hexDigs_get a ha2 h'
      have gm := fun h' => hexDigs_get m hm2 h'
      have a3 : (a : Int) < 16 := by omega
      have m3 : (m : Int) < 16 := by omega
      clear ha hm
      obtain ⟨A3, c3, hv3, r3⟩ := OwnL.rd HO.out (by have := HSZ.out; omega)
      subst hv3
      clear r3
      have hd := Ext_drew (Ext.refl wr)
      go_wp2_with fail
      go_region_law (first
        | (refine step_appN rfl (.tmp 16) (.tmp 23) _ rfl E_u8 (by omega) w wr.drew _ vu8 (fun _ => rfl) _ rfl 2 2 rfl s [hxD a, hxD m] _ rfl rfl (HO.out.ext hd) (he.trans hd) rfl (by have := HSZ.out; simp; omega) ?_; intro v4 w4 ho4 he4; have HO4 := Lib.hid ho4; clear ho4))
      all_goals
        go_wp2
        go_roundw
        case rel => exact ⟨k + 1, by omega, by go_num, by rw [hT.out]; exact HO4.out, he4⟩
        case measure => simp [intOf]; omega
    · obtain rfl : k = l.length := by omega
      rw [List.take_length] at ho
      obtain ⟨A5, c5, rfl, r5⟩ := OwnL.rd ho (by rw [hxL_len]; omega)
      have kc := fun w' e => conv_bytes (w' := w') r5 e
      have kc0 := kc wr (Ext.refl _)
      clear kc
      go_wp2
      go_ret
      exact ⟨rfl, he⟩
end Go.Proofs.YtdbbdoldndnbhaaDoor

/- JoinText of both sides. -/
namespace Go.Proofs.YtdbbdoldndnbhaaDoor
open Go.RowKit Go.Sort

def joinB (l : List ByteArray) (sep : ByteArray) : ByteArray := ⟨(Lib.join (l.map (·.data.toList)) sep.data.toList).toArray⟩
theorem e_app (x : ByteArray) : (⟨#[]⟩ : ByteArray) ++ x = x := by apply ByteArray.ext; simp [ByteArray.data_append]
theorem joinB_nil (sep : ByteArray) : joinB [] sep = ⟨#[]⟩ := rfl
theorem joinB_one (x sep : ByteArray) : joinB [x] sep = x := by
  unfold joinB; rw [List.map_cons, List.map_nil, Lib.join_one]
theorem joinB_snoc (y : ByteArray) (r : List ByteArray) (x sep : ByteArray) : joinB ((y :: r) ++ [x]) sep = joinB (y :: r) sep ++ sep ++ x := by
  unfold joinB
  rw [List.cons_append, List.map_cons, List.map_cons, Lib.join_cons, Lib.join_cons, List.map_append]
  apply ByteArray.ext
  simp [Lib.joinTail, ByteArray.data_append]
theorem joinB_take {l : List ByteArray} {k : Nat} (hk : k < l.length) (h0 : 0 < k) (sep : ByteArray) : joinB (l.take (k + 1)) sep = joinB (l.take k) sep ++ sep ++ l[k] := by
  rw [List.take_succ_eq_append_getElem hk]
  obtain ⟨y, r, hr⟩ : ∃ y r, l.take k = y :: r := by
    cases h : l.take k with
    | nil => have := congrArg List.length h; rw [List.length_take, List.length_nil] at this; omega
    | cons y r => exact ⟨y, r, rfl⟩
  rw [hr, joinB_snoc]
theorem joinB_size {l : List ByteArray} {sep : ByteArray} {m : Nat} (h : ∀ x ∈ l, x.size ≤ m) : (joinB l sep).size ≤ l.length * (m + sep.size) := by
  show (Lib.join (l.map (·.data.toList)) sep.data.toList).toArray.size ≤ _
  rw [List.size_toArray]
  have hs : ∀ x : ByteArray, x.data.toList.length = x.size := fun x => by simp
  cases l with
  | nil => simp [Lib.join_nil]
  | cons y r =>
    rw [List.map_cons, Lib.join_cons, List.length_append, hs]
    have h1 := h y (List.mem_cons_self ..)
    have h2 : (Lib.joinTail sep.data.toList (r.map (·.data.toList))).length ≤ r.length * (m + sep.size) := by
      have h3 : ∀ x ∈ r, x.size ≤ m := fun x hx => h x (List.mem_cons_of_mem _ hx)
      clear h h1
      induction r with
      | nil => simp [Lib.joinTail]
      | cons z t ih =>
        have h4 := h3 z (List.mem_cons_self ..)
        have h5 := ih (fun x hx => h3 x (List.mem_cons_of_mem _ hx))
        unfold Lib.joinTail at *
        simp only [List.map_cons, List.flatten_cons, List.length_append, hs, List.length_cons] at *
        have h6 : (t.length + 1) * (m + sep.size) = t.length * (m + sep.size) + (m + sep.size) := by rw [Nat.add_mul, Nat.one_mul]
        omega
    have h6 : (r.length + 1) * (m + sep.size) = r.length * (m + sep.size) + (m + sep.size) := by rw [Nat.add_mul, Nat.one_mul]
    simp only [List.length_cons]
    omega
set_option maxHeartbeats 1000000 in
theorem sJoin_c (A : Option Addr) (l : List ByteArray) (c : Nat) (sep : ByteArray) (w : World) (h : Rd vstr w A l c) (hM : ∀ x ∈ l, x.size ≤ 100) (hsep : sep.size ≤ 1) (hL : l.length ≤ 1048576) :
    Gives Tryd.prog 56 #[.slice A l.length c, .string sep] w (.string (joinB l sep)) := by
  have HSZ : Hid (∀ k, (joinB (l.take k) sep).size ≤ k * 101) := fun k => by
    have h1 := joinB_size (l := l.take k) (sep := sep) (fun x hx => hM x (List.mem_of_mem_take hx))
    rw [List.length_take] at h1
    exact Nat.le_trans h1 (Nat.mul_le_mul (by omega) (by omega))
  have HM := Lib.hid hM; have HH := Lib.hid h
  clear hM h
  go_enter Tryd.func56, Tryd.ntmps56
  go_wp2
  go_loopw [6, 5] (fun i s wr => ∃ k : Nat, k ≤ l.length ∧ i = .int .i64 k ∧ s = .string (joinB (l.take k) sep) ∧ Ext w wr) (fun i _ _ => l.length - (intOf i).toNat)
  case atStart => exact ⟨0, by omega, rfl, rfl, Ext.refl _⟩
  case round =>
    obtain ⟨k, hk, rfl, rfl, he⟩ := hrel
    by_cases hlt : k < l.length
    · obtain ⟨b, off, rfl, hb, hc⟩ := HH.out.at k hlt
      have hx := HM.out l[k] (List.getElem_mem hlt)
      have hz := HSZ.out k
      have HT : Hid (0 < k → joinB (l.take (k + 1)) sep = joinB (l.take k) sep ++ sep ++ l[k]) := fun h0 => joinB_take hlt h0 sep
      have HT0 : Hid (k = 0 → joinB (l.take (k + 1)) sep = l[k]) := fun h0 => by subst h0; rw [List.take_succ_eq_append_getElem hlt]; exact joinB_one _ _
      have b1 : (k : Int) < (l.length : Int) := by omega
      rcases Nat.eq_zero_or_pos k with h0 | h0
      · have HE := Lib.hid (HT0.out h0)
        have HZ : Hid (joinB (l.take k) sep = ⟨#[]⟩) := by show _ = _; rw [h0]; rfl
        have d0 : decide (0 < k) = false := decide_eq_false (by omega)
        have d1 : ¬ 0 < k := by omega
        clear HT HT0
        generalize l[k] = x at *
        rw [HZ.out]
        have z0 : (⟨#[]⟩ : ByteArray).size ≤ 0 := by decide
        clear hz h0
        go_wp2
        go_roundw
        case rel => exact ⟨k + 1, by omega, by go_num, by rw [HE.out, e_app], he⟩
        case measure => simp [intOf]; omega
      · have HE := Lib.hid (HT.out h0)
        have d0 : decide (0 < (k : Int)) = true := decide_eq_true (by omega)
        clear HT HT0
        generalize l[k] = x at *
        generalize joinB (l.take k) sep = s at *
        have n1 : ¬ 9223372036854775807 < s.size + sep.size := by omega
        have n2 : ¬ 9223372036854775807 < s.size + sep.size + x.size := by omega
        clear hz
        go_wp2
        go_roundw
        case rel => exact ⟨k + 1, by omega, by go_num, by rw [HE.out], he⟩
        case measure => simp [intOf]; omega
    · obtain rfl : k = l.length := by omega
      have hk0 : ¬ (l.length : Int) < (l.length : Int) := by omega
      rw [List.take_length]
      clear HSZ
      go_wp2
      go_ret
      exact ⟨rfl, he⟩
theorem iJoin_c (A : Option Addr) (l : List ByteArray) (c : Nat) (sep : ByteArray) (w : World) (h : Rd vstr w A l c) (hM : ∀ x ∈ l, x.size ≤ 100) (hsep : sep.size ≤ 1) (hL : l.length ≤ 1048576) :
    Gives Tryd.prog 59 #[.slice A l.length c, .string sep] w (.string (joinB l sep)) := by
  have hsz : (joinB l sep).size ≤ 1048576 * 101 := Nat.le_trans (joinB_size hM) (Nat.mul_le_mul hL (by omega))
  have C : Hid (Calls Tryd.prog 83 #[.slice A l.length c, .string sep] w fun e w' => e = .returned (.string (joinB l sep)) ∧ Ext w w') := by
    rcases Nat.eq_zero_or_pos l.length with h0 | h0
    · obtain rfl : l = [] := List.eq_nil_of_length_eq_zero h0
      exact (Tryd.strings_Join_none A c sep w).mono fun e w' ⟨a, b⟩ => ⟨a, by rw [b]; exact Ext.refl _⟩
    · obtain ⟨b, off, rfl, hb, hc⟩ := h.base h0
      refine Tryd.strings_Join b off c l sep w (fun j x hx => ?_) hb (by omega) h.cap ?_
      · obtain ⟨hj, rfl⟩ := List.getElem?_eq_some_iff.1 hx
        exact hc w (Ext.refl _) j hj
      · have h1 : (joinB l sep).size = (Lib.join (l.map (·.data.toList)) sep.data.toList).length := by show (Lib.join (l.map (·.data.toList)) sep.data.toList).toArray.size = _; rw [List.size_toArray]
        omega
  generalize joinB l sep = s at *
  go_enter Tryd.func59, Tryd.ntmps59
  go_wp2_with fail
  refine C.out.mono ?_; rintro _ w1 ⟨rfl, he⟩
  go_wp2
  go_ret
  exact ⟨rfl, he⟩
end Go.Proofs.YtdbbdoldndnbhaaDoor

/- ExpectedText of the program and of the reference: the walks. -/
namespace Go.Proofs.YtdbbdoldndnbhaaDoor
open Go.RowKit Go.Sort

def vdiag (c p : Int) (s : ByteArray) (r : Int) : Value := .agg #[.int .i64 c, .int .i64 p, .string s, .int .i64 r]
def expR (r : DRule) (code : Int) : ByteArray :=
  if code = 2 then hxB r.bytes else if code = 3 then joinB (r.tags.map itoaB) ⟨#[44]⟩ else if code = 4 then ⟨#[48, 32, 111, 114, 32, 49]⟩ else if code = 6 then ⟨#[97, 116, 32, 109, 111, 115, 116, 32]⟩ ++ itoaB 40 else if code = 7 then ⟨#[116, 104, 101, 32, 101, 110, 100]⟩ else ⟨#[]⟩
def expT (ds : List DRule) (code rule : Int) : ByteArray := if 0 ≤ rule ∧ rule < ds.length then (match ds[rule.toNat]? with | some r => expR r code | none => ⟨#[]⟩) else ⟨#[]⟩
theorem expT_out {ds : List DRule} {code rule : Int} (h : ¬ (0 ≤ rule ∧ rule < ds.length)) : expT ds code rule = ⟨#[]⟩ := if_neg h
theorem expT_at {ds : List DRule} {code : Int} {k : Nat} (h : k < ds.length) : expT ds code (k : Int) = expR ds[k] code := by
  unfold expT; rw [if_pos ⟨by omega, by omega⟩, Int.toNat_natCast, List.getElem?_eq_getElem h]
theorem lens_le {b : List DRule} {y : DRule} (hm : y ∈ b) : y.bytes.length ≤ szD b ∧ y.tags.length ≤ szD b := by
  have := sum_mem szRl b y hm
  unfold szD; unfold szRl at *; omega
set_option maxRecDepth 100000 in
set_option maxHeartbeats 8000000 in
theorem sExpected_c (A : Option Addr) (ds : List DRule) (c : Nat) (code pos : Int) (path : ByteArray) (rule : Int) (w : World) (hd : RdD w A ds c) (hwd : WfD ds) (hL : szD ds ≤ 1048576) :
    Gives Tryd.prog 18 #[vdesc (.slice A ds.length c), vdiag code pos path rule] w (.string (expT ds code rule)) := by
  have hl : ds.length ≤ 1048576 := by unfold szD at hL; omega
  have eb := Ext_alloc (.cells #[.int .i64 code, .int .i64 pos, .string path, .int .i64 rule] 41) (Ext_alloc (.cells #[.slice A ds.length c] 30) (Ext.refl w))
  have BX := fun w' (e : Ext ((w.alloc (.cells #[.slice A ds.length c] 30)).alloc (.cells #[.int .i64 code, .int .i64 pos, .string path, .int .i64 rule] 41)) w') => boxed2 e
  have B0 := fun w' e => (BX w' e).1
  have B1 := fun w' e => (BX w' e).2.1
  clear BX
  obtain ⟨W0, hW0⟩ : ∃ W0, W0 = ((w.alloc (.cells #[.slice A ds.length c] 30)).alloc (.cells #[.int .i64 code, .int .i64 pos, .string path, .int .i64 rule] 41)) := ⟨_, rfl⟩
  rw [← hW0] at eb B0 B1
  have HW0 := Lib.hid hW0
  have HD := Lib.hid (hd.ext eb)
  
  have CR := Lib.hid (fun w => l1In_c rule 0 ((ds.length : Int) - 1) w)
  unfold vdesc at *
  unfold vdiag
  clear hW0 hd
  by_cases hin : ¬ (0 ≤ rule ∧ rule < ds.length)
  · have HE : Hid (expT ds code rule = ⟨#[]⟩) := expT_out hin
    have HB : Hid ((decide (0 ≤ rule) && decide (rule ≤ (ds.length : Int) - 1)) = false) := by show _ = _; simp; omega
    rw [HE.out]
    clear hin
    go_enter Tryd.func18, Tryd.ntmps18
    go_wp2_with fail
    rw [← HW0.out]
    refine (CR.out _).mono ?_; rintro _ w1 ⟨rfl, s1⟩; rw [HB.out]
    go_wp2
    go_ret
    exact ⟨rfl, eb.trans s1⟩
  replace hin := Classical.not_not.1 hin
  obtain ⟨k, rfl⟩ : ∃ k : Nat, rule = (k : Int) := ⟨rule.toNat, by omega⟩
  have hk : k < ds.length := by omega
  have HB : Hid ((decide (0 ≤ (k : Int)) && decide ((k : Int) ≤ (ds.length : Int) - 1)) = true) := by show _ = _; simp; omega
  rw [HB.out] at CR
  have HEA : Hid (expT ds code (k : Int) = expR ds[k] code) := expT_at hk
  rw [HEA.out]
  obtain ⟨bb, ob, Ab, cb, An, cn, At, ct, Ak, ck, rfl, hbb, hS, hR⟩ := HD.out.at k hk
  obtain ⟨hbl, htl⟩ := lens_le (List.getElem_mem hk)
  replace hbl := Nat.le_trans hbl hL; replace htl := Nat.le_trans htl hL
  have HWT := Lib.hid (hwd _ (List.getElem_mem hk)).tags
  generalize ds[k] = y at *
  have HSB := Lib.hid (show Bs W0 Ab y.bytes cb from ⟨hS.b, by omega⟩); have HST := Lib.hid hS.t
  have b1 : (k : Int) < (ds.length : Int) := by omega
  obtain ⟨l0, l1, l2, l3, l4, l5, l6, l7⟩ := hR
  clear hS HEA HB hin HD
  by_cases h2 : code = 2
  · subst h2
    have HE : Hid (expR y 2 = hxB y.bytes) := rfl
    rw [HE.out]
    have CH := Lib.hid (fun w h => sFormatHex_c Ab y.bytes cb w h (by omega))
    go_enter Tryd.func18, Tryd.ntmps18
    go_wp2_with fail
    rw [← HW0.out]
    refine (CR.out _).mono ?_; rintro _ w1 ⟨rfl, s1⟩
    have x2 := s1.trans (Ext_alloc (.cells #[.string y.nm, .int .i64 y.kind, .int .i64 y.size, .bool y.little, .slice Ab y.bytes.length cb, .slice An y.names.length cn, .slice At y.tags.length ct, .slice Ak y.kids.length ck] 69) (Ext.refl w1))
    have hbx := fun w' (e : Ext (w1.alloc (.cells #[.string y.nm, .int .i64 y.kind, .int .i64 y.size, .bool y.little, .slice Ab y.bytes.length cb, .slice An y.names.length cn, .slice At y.tags.length ct, .slice Ak y.kids.length ck] 69)) w') => boxed e
    go_wp2_with fail
    refine (CH.out _ (HSB.out.ext x2)).mono ?_; rintro _ w3 ⟨rfl, s3⟩
    go_wp2
    go_ret
    exact ⟨rfl, eb.trans (x2.trans s3)⟩
  have k2 : (code == 2) = false := by simpa using h2
  by_cases h3 : code = 3
  · subst h3
    have HE : Hid (expR y 3 = joinB (y.tags.map itoaB) ⟨#[44]⟩) := rfl
    rw [HE.out]
    have CJ : Hid (∀ A' c' w', Rd vstr w' A' (y.tags.map itoaB) c' → Gives Tryd.prog 56 #[.slice A' (y.tags.map itoaB).length c', .string ⟨#[44]⟩] w' (.string (joinB (y.tags.map itoaB) ⟨#[44]⟩))) := fun A' c' w' h => sJoin_c A' _ c' _ w' h (fun x hx => by
      obtain ⟨t, ht, rfl⟩ := List.mem_map.1 hx
      have := i64_of_wf (HWT.out t ht); have := itoa_size t this.1 this.2; omega) (by decide) (by rw [List.length_map]; exact htl)
    have HLN : Hid ((y.tags.map itoaB).length ≤ 1048576) := by show _ ≤ _; rw [List.length_map]; exact htl
    have CF : Hid (∀ w' t, Ext W0 w' → t ∈ y.tags → Gives Tryd.prog 45 #[.int .i64 t] w' (.string (itoaB t))) := fun w' t e ht => sFormatInt_c t w' (i64_of_wf (HWT.out t ht)).1 (i64_of_wf (HWT.out t ht)).2
    have HTK : Hid (∀ q (hq : q < y.tags.length), (y.tags.take q).map itoaB ++ [itoaB y.tags[q]] = (y.tags.take (q+1)).map itoaB) := fun q hq => take_snoc' itoaB y.tags q hq
    have HTA : Hid ((y.tags.take y.tags.length).map itoaB = y.tags.map itoaB) := by show _ = _; rw [List.take_length]
    go_enter Tryd.func18, Tryd.ntmps18
    go_wp2_with fail
    rw [← HW0.out]
    refine (CR.out _).mono ?_; rintro _ w1 ⟨rfl, s1⟩
    have x2 := s1.trans (Ext_alloc (.cells #[.string y.nm, .int .i64 y.kind, .int .i64 y.size, .bool y.little, .slice Ab y.bytes.length cb, .slice An y.names.length cn, .slice At y.tags.length ct, .slice Ak y.kids.length ck] 69) (Ext.refl w1))
    have hbx := fun w' (e : Ext (w1.alloc (.cells #[.string y.nm, .int .i64 y.kind, .int .i64 y.size, .bool y.little, .slice Ab y.bytes.length cb, .slice An y.names.length cn, .slice At y.tags.length ct, .slice Ak y.kids.length ck] 69)) w') => boxed e
    have OE := Lib.hid (OwnL.empty (f := vstr) (e := 9) (Ext.refl (w1.alloc (.cells #[.string y.nm, .int .i64 y.kind, .int .i64 y.size, .bool y.little, .slice Ab y.bytes.length cb, .slice An y.names.length cn, .slice At y.tags.length ct, .slice Ak y.kids.length ck] 69))))
    have x3 := x2.trans (Ext_alloc (.cells #[] 9) (Ext.refl (w1.alloc (.cells #[.string y.nm, .int .i64 y.kind, .int .i64 y.size, .bool y.little, .slice Ab y.bytes.length cb, .slice An y.names.length cn, .slice At y.tags.length ct, .slice Ak y.kids.length ck] 69))))
    go_wp2
    go_loopw [7, 6] (fun qi v wq => ∃ q : Nat, q ≤ y.tags.length ∧ qi = .int .i64 q ∧ Hid (OwnL vstr 9 (w1.alloc (.cells #[.string y.nm, .int .i64 y.kind, .int .i64 y.size, .bool y.little, .slice Ab y.bytes.length cb, .slice An y.names.length cn, .slice At y.tags.length ct, .slice Ak y.kids.length ck] 69)) wq v ((y.tags.take q).map itoaB)) ∧ Ext (w1.alloc (.cells #[.string y.nm, .int .i64 y.kind, .int .i64 y.size, .bool y.little, .slice Ab y.bytes.length cb, .slice An y.names.length cn, .slice At y.tags.length ct, .slice Ak y.kids.length ck] 69)) wq) (fun qi _ _ => y.tags.length - (intOf qi).toNat)
    case atStart => exact ⟨0, by omega, rfl, Lib.hid (by simpa using OE.out), Ext_alloc _ (Ext.refl _)⟩
    case round =>
      clear OE x3
      obtain ⟨q, hq, rfl, ho, he⟩ := hrel
      have e0 := x2.trans he
      by_cases hlt : q < y.tags.length
      · obtain ⟨bt, ot, hAt, hbt, hct⟩ := HST.out.at q hlt
        subst hAt
        have HQ := Lib.hid (HTK.out q hlt)
        have C := Lib.hid (fun w' e => CF.out w' y.tags[q] e (List.getElem_mem hlt))
        have HB : Hid ((((y.tags.take q).map itoaB).length + [itoaB y.tags[q]].length) * 16 ≤ 140737488355328) := by show _ ≤ _; simp only [List.length_map, List.length_take, List.length_cons, List.length_nil]; omega
        generalize (y.tags.take q).map itoaB = L at *
        have b2 : (q : Int) < (y.tags.length : Int) := by omega
        generalize y.tags[q] = t at *
        generalize itoaB t = it at *
        have hct0 := hct wr e0
        go_wp2_with fail
        refine (C.out _ e0).mono ?_; rintro _ w5 ⟨rfl, s5⟩
        have HO := Lib.hid (ho.out.ext s5)
        have e5 := he.trans s5
        clear ho hct0
        go_wp2_with (at_builtin; go_must (refine wpList_appN rfl (.tmp 39) (.tmp 46) _ rfl E_str (by omega) _ _ vstr (fun _ => rfl) _ rfl _ _ rfl L [it] _ rfl HO.out e5 rfl HB.out ?_); intro v1 w6 ho1 he1; rw [HQ.out] at ho1)
        have H1 := Lib.hid ho1; clear ho1
        go_roundw
        case rel => exact ⟨q + 1, by omega, by go_num, H1, he1⟩
        case measure => simp [intOf]; omega
      · obtain rfl : q = y.tags.length := by omega
        have b2 : ¬ (y.tags.length : Int) < (y.tags.length : Int) := by omega
        have ho2 := ho.out
        rw [HTA.out] at ho2
        obtain ⟨A5, c5, hv5, r5⟩ := OwnL.rd ho2 (by have := HLN.out; omega)
        have C5 := Lib.hid (CJ.out A5 c5 _ r5)
        rw [← hv5] at C5
        clear ho ho2 r5 hv5 CJ
        go_wp2_with fail
        refine C5.out.mono ?_; rintro _ w7 ⟨rfl, s7⟩
        go_wp2
        go_ret
        exact ⟨rfl, eb.trans (e0.trans s7)⟩
  have k3 : (code == 3) = false := by simpa using h3
  by_cases h4 : code = 4
  · subst h4
    have HE : Hid (expR y 4 = ⟨#[48, 32, 111, 114, 32, 49]⟩) := rfl
    rw [HE.out]
    go_enter Tryd.func18, Tryd.ntmps18
    go_wp2_with fail
    rw [← HW0.out]
    refine (CR.out _).mono ?_; rintro _ w1 ⟨rfl, s1⟩
    have x2 := s1.trans (Ext_alloc (.cells #[.string y.nm, .int .i64 y.kind, .int .i64 y.size, .bool y.little, .slice Ab y.bytes.length cb, .slice An y.names.length cn, .slice At y.tags.length ct, .slice Ak y.kids.length ck] 69) (Ext.refl w1))
    have hbx := fun w' (e : Ext (w1.alloc (.cells #[.string y.nm, .int .i64 y.kind, .int .i64 y.size, .bool y.little, .slice Ab y.bytes.length cb, .slice An y.names.length cn, .slice At y.tags.length ct, .slice Ak y.kids.length ck] 69)) w') => boxed e
    go_wp2
    go_ret
    exact ⟨rfl, eb.trans x2⟩
  have k4 : (code == 4) = false := by simpa using h4
  by_cases h6 : code = 6
  · subst h6
    have HE : Hid (expR y 6 = ⟨#[97, 116, 32, 109, 111, 115, 116, 32]⟩ ++ itoaB 40) := rfl
    rw [HE.out]
    have hs40 := itoa_size 40 (by omega) (by omega)
    have C := Lib.hid (fun w' (e : Ext W0 w') => sFormatInt_c 40 w' (by omega) (by omega))
    generalize itoaB 40 = it at *
    go_enter Tryd.func18, Tryd.ntmps18
    go_wp2_with fail
    rw [← HW0.out]
    refine (CR.out _).mono ?_; rintro _ w1 ⟨rfl, s1⟩
    have x2 := s1.trans (Ext_alloc (.cells #[.string y.nm, .int .i64 y.kind, .int .i64 y.size, .bool y.little, .slice Ab y.bytes.length cb, .slice An y.names.length cn, .slice At y.tags.length ct, .slice Ak y.kids.length ck] 69) (Ext.refl w1))
    have hbx := fun w' (e : Ext (w1.alloc (.cells #[.string y.nm, .int .i64 y.kind, .int .i64 y.size, .bool y.little, .slice Ab y.bytes.length cb, .slice An y.names.length cn, .slice At y.tags.length ct, .slice Ak y.kids.length ck] 69)) w') => boxed e
    go_wp2_with fail
    refine (C.out _ x2).mono ?_; rintro _ w5 ⟨rfl, s5⟩
    go_wp2
    go_ret
    exact ⟨rfl, eb.trans (x2.trans s5)⟩
  have k6 : (code == 6) = false := by simpa using h6
  by_cases h7 : code = 7
  · subst h7
    have HE : Hid (expR y 7 = ⟨#[116, 104, 101, 32, 101, 110, 100]⟩) := rfl
    rw [HE.out]
    go_enter Tryd.func18, Tryd.ntmps18
    go_wp2_with fail
    rw [← HW0.out]
    refine (CR.out _).mono ?_; rintro _ w1 ⟨rfl, s1⟩
    have x2 := s1.trans (Ext_alloc (.cells #[.string y.nm, .int .i64 y.kind, .int .i64 y.size, .bool y.little, .slice Ab y.bytes.length cb, .slice An y.names.length cn, .slice At y.tags.length ct, .slice Ak y.kids.length ck] 69) (Ext.refl w1))
    have hbx := fun w' (e : Ext (w1.alloc (.cells #[.string y.nm, .int .i64 y.kind, .int .i64 y.size, .bool y.little, .slice Ab y.bytes.length cb, .slice An y.names.length cn, .slice At y.tags.length ct, .slice Ak y.kids.length ck] 69)) w') => boxed e
    go_wp2
    go_ret
    exact ⟨rfl, eb.trans x2⟩
  have k7 : (code == 7) = false := by simpa using h7
  have HE : Hid (expR y code = ⟨#[]⟩) := by show _ = _; unfold expR; rw [if_neg h2, if_neg h3, if_neg h4, if_neg h6, if_neg h7]
  rw [HE.out]
  go_enter Tryd.func18, Tryd.ntmps18
  go_wp2_with fail
  rw [← HW0.out]
  refine (CR.out _).mono ?_; rintro _ w1 ⟨rfl, s1⟩
  have x2 := s1.trans (Ext_alloc (.cells #[.string y.nm, .int .i64 y.kind, .int .i64 y.size, .bool y.little, .slice Ab y.bytes.length cb, .slice An y.names.length cn, .slice At y.tags.length ct, .slice Ak y.kids.length ck] 69) (Ext.refl w1))
  have hbx := fun w' (e : Ext (w1.alloc (.cells #[.string y.nm, .int .i64 y.kind, .int .i64 y.size, .bool y.little, .slice Ab y.bytes.length cb, .slice An y.names.length cn, .slice At y.tags.length ct, .slice Ak y.kids.length ck] 69)) w') => boxed e
  go_wp2
  go_ret
  exact ⟨rfl, eb.trans x2⟩
set_option maxRecDepth 100000 in
set_option maxHeartbeats 8000000 in
theorem iExpected_c (A : Option Addr) (ds : List DRule) (c : Nat) (code pos : Int) (path : ByteArray) (rule : Int) (w : World) (hd : RdD w A ds c) (hwd : WfD ds) (hL : szD ds ≤ 1048576) (hT : Tab w) :
    Gives Tryd.prog 20 #[vdesc (.slice A ds.length c), vdiag code pos path rule] w (.string (expT ds code rule)) := by
  have hl : ds.length ≤ 1048576 := by unfold szD at hL; omega
  have eb := Ext_alloc (.cells #[.int .i64 code, .int .i64 pos, .string path, .int .i64 rule] 41) (Ext_alloc (.cells #[.slice A ds.length c] 30) (Ext.refl w))
  have BX := fun w' (e : Ext ((w.alloc (.cells #[.slice A ds.length c] 30)).alloc (.cells #[.int .i64 code, .int .i64 pos, .string path, .int .i64 rule] 41)) w') => boxed2 e
  have B0 := fun w' e => (BX w' e).1
  have B1 := fun w' e => (BX w' e).2.1
  clear BX
  obtain ⟨W0, hW0⟩ : ∃ W0, W0 = ((w.alloc (.cells #[.slice A ds.length c] 30)).alloc (.cells #[.int .i64 code, .int .i64 pos, .string path, .int .i64 rule] 41)) := ⟨_, rfl⟩
  rw [← hW0] at eb B0 B1
  have HW0 := Lib.hid hW0
  have HD := Lib.hid (hd.ext eb)
  have HT := Lib.hid (hT.ext eb)
  have CR := Lib.hid (fun w => hasRule_c A ds.length c rule w (by omega))
  unfold vdesc at *
  unfold vdiag
  clear hW0 hd hT
  by_cases hin : ¬ (0 ≤ rule ∧ rule < ds.length)
  · have HE : Hid (expT ds code rule = ⟨#[]⟩) := expT_out hin
    have HB : Hid ((decide (0 ≤ rule) && decide (rule < (ds.length : Int))) = false) := by show _ = _; simp; omega
    rw [HE.out]
    clear hin
    go_enter Tryd.func20, Tryd.ntmps20
    go_wp2_with fail
    rw [← HW0.out]
    refine (CR.out _).mono ?_; rintro _ w1 ⟨rfl, s1⟩; rw [HB.out]
    go_wp2
    go_ret
    exact ⟨rfl, eb.trans s1⟩
  replace hin := Classical.not_not.1 hin
  obtain ⟨k, rfl⟩ : ∃ k : Nat, rule = (k : Int) := ⟨rule.toNat, by omega⟩
  have hk : k < ds.length := by omega
  have HB : Hid ((decide (0 ≤ (k : Int)) && decide ((k : Int) < (ds.length : Int))) = true) := by show _ = _; simp; omega
  rw [HB.out] at CR
  have HEA : Hid (expT ds code (k : Int) = expR ds[k] code) := expT_at hk
  rw [HEA.out]
  obtain ⟨bb, ob, Ab, cb, An, cn, At, ct, Ak, ck, rfl, hbb, hS, hR⟩ := HD.out.at k hk
  obtain ⟨hbl, htl⟩ := lens_le (List.getElem_mem hk)
  replace hbl := Nat.le_trans hbl hL; replace htl := Nat.le_trans htl hL
  have HWT := Lib.hid (hwd _ (List.getElem_mem hk)).tags
  generalize ds[k] = y at *
  have HSB := Lib.hid (show Bs W0 Ab y.bytes cb from ⟨hS.b, by omega⟩); have HST := Lib.hid hS.t
  have b1 : (k : Int) < (ds.length : Int) := by omega
  obtain ⟨l0, l1, l2, l3, l4, l5, l6, l7⟩ := hR
  clear hS HEA HB hin HD
  by_cases h2 : code = 2
  · subst h2
    have HE : Hid (expR y 2 = hxB y.bytes) := rfl
    rw [HE.out]
    have CH := Lib.hid (fun w h => iFormatHex_c Ab y.bytes cb w h (by omega))
    go_enter Tryd.func20, Tryd.ntmps20
    go_wp2_with fail
    rw [← HW0.out]
    refine (CR.out _).mono ?_; rintro _ w1 ⟨rfl, s1⟩
    have x2 := s1
    go_wp2_with fail
    refine (CH.out _ (HSB.out.ext x2)).mono ?_; rintro _ w3 ⟨rfl, s3⟩
    go_wp2
    go_ret
    exact ⟨rfl, eb.trans (x2.trans s3)⟩
  have k2 : (code == 2) = false := by simpa using h2
  by_cases h3 : code = 3
  · subst h3
    have HE : Hid (expR y 3 = joinB (y.tags.map itoaB) ⟨#[44]⟩) := rfl
    rw [HE.out]
    have CJ : Hid (∀ A' c' w', Rd vstr w' A' (y.tags.map itoaB) c' → Gives Tryd.prog 59 #[.slice A' (y.tags.map itoaB).length c', .string ⟨#[44]⟩] w' (.string (joinB (y.tags.map itoaB) ⟨#[44]⟩))) := fun A' c' w' h => iJoin_c A' _ c' _ w' h (fun x hx => by
      obtain ⟨t, ht, rfl⟩ := List.mem_map.1 hx
      have := i64_of_wf (HWT.out t ht); have := itoa_size t this.1 this.2; omega) (by decide) (by rw [List.length_map]; exact htl)
    have HLN : Hid ((y.tags.map itoaB).length ≤ 1048576) := by show _ ≤ _; rw [List.length_map]; exact htl
    have CF : Hid (∀ w' t, Ext W0 w' → t ∈ y.tags → Gives Tryd.prog 50 #[.int .i64 t] w' (.string (itoaB t))) := fun w' t e ht => iFormatInt_c t w' (HT.out.ext e) (i64_of_wf (HWT.out t ht)).1 (i64_of_wf (HWT.out t ht)).2
    have HTK : Hid (∀ q (hq : q < y.tags.length), (y.tags.take q).map itoaB ++ [itoaB y.tags[q]] = (y.tags.take (q+1)).map itoaB) := fun q hq => take_snoc' itoaB y.tags q hq
    have HTA : Hid ((y.tags.take y.tags.length).map itoaB = y.tags.map itoaB) := by show _ = _; rw [List.take_length]
    go_enter Tryd.func20, Tryd.ntmps20
    go_wp2_with fail
    rw [← HW0.out]
    refine (CR.out _).mono ?_; rintro _ w1 ⟨rfl, s1⟩
    have x2 := s1
    have OE := Lib.hid (OwnL.empty (f := vstr) (e := 9) (Ext.refl w1))
    have x3 := x2.trans (Ext_alloc (.cells #[] 9) (Ext.refl w1))
    go_wp2
    go_loopw [36, 5] (fun qi v wq => ∃ q : Nat, q ≤ y.tags.length ∧ qi = .int .i64 q ∧ Hid (OwnL vstr 9 w1 wq v ((y.tags.take q).map itoaB)) ∧ Ext w1 wq) (fun qi _ _ => y.tags.length - (intOf qi).toNat)
    case atStart => exact ⟨0, by omega, rfl, OE.out, Ext_alloc _ (Ext.refl _)⟩
    case round =>
      clear OE x3
      obtain ⟨q, hq, rfl, ho, he⟩ := hrel
      have e0 := x2.trans he
      by_cases hlt : q < y.tags.length
      · obtain ⟨bt, ot, hAt, hbt, hct⟩ := HST.out.at q hlt
        subst hAt
        have HQ := Lib.hid (HTK.out q hlt)
        have C := Lib.hid (fun w' e => CF.out w' y.tags[q] e (List.getElem_mem hlt))
        have HB : Hid ((((y.tags.take q).map itoaB).length + [itoaB y.tags[q]].length) * 16 ≤ 140737488355328) := by show _ ≤ _; simp only [List.length_map, List.length_take, List.length_cons, List.length_nil]; omega
        generalize (y.tags.take q).map itoaB = L at *
        have b2 : (q : Int) < (y.tags.length : Int) := by omega
        generalize y.tags[q] = t at *
        generalize itoaB t = it at *
        have hct0 := hct wr e0
        go_wp2_with fail
        refine (C.out _ e0).mono ?_; rintro _ w5 ⟨rfl, s5⟩
        have HO := Lib.hid (ho.out.ext s5)
        have e5 := he.trans s5
        clear ho hct0
        go_wp2_with (at_builtin; go_must (refine wpList_appN rfl (.tmp 40) (.tmp 43) _ rfl E_str (by omega) _ _ vstr (fun _ => rfl) _ rfl _ _ rfl L [it] _ rfl HO.out e5 rfl HB.out ?_); intro v1 w6 ho1 he1; rw [HQ.out] at ho1)
        have H1 := Lib.hid ho1; clear ho1
        go_roundw
        case rel => exact ⟨q + 1, by omega, by go_num, H1, he1⟩
        case measure => simp [intOf]; omega
      · obtain rfl : q = y.tags.length := by omega
        have b2 : ¬ (y.tags.length : Int) < (y.tags.length : Int) := by omega
        have ho2 := ho.out
        rw [HTA.out] at ho2
        obtain ⟨A5, c5, hv5, r5⟩ := OwnL.rd ho2 (by have := HLN.out; omega)
        have C5 := Lib.hid (CJ.out A5 c5 _ r5)
        rw [← hv5] at C5
        clear ho ho2 r5 hv5 CJ
        go_wp2_with fail
        refine C5.out.mono ?_; rintro _ w7 ⟨rfl, s7⟩
        go_wp2
        go_ret
        exact ⟨rfl, eb.trans (e0.trans s7)⟩
  have k3 : (code == 3) = false := by simpa using h3
  by_cases h4 : code = 4
  · subst h4
    have HE : Hid (expR y 4 = ⟨#[48, 32, 111, 114, 32, 49]⟩) := rfl
    rw [HE.out]
    go_enter Tryd.func20, Tryd.ntmps20
    go_wp2_with fail
    rw [← HW0.out]
    refine (CR.out _).mono ?_; rintro _ w1 ⟨rfl, s1⟩
    have x2 := s1
    go_wp2
    go_ret
    exact ⟨rfl, eb.trans x2⟩
  have k4 : (code == 4) = false := by simpa using h4
  by_cases h6 : code = 6
  · subst h6
    have HE : Hid (expR y 6 = ⟨#[97, 116, 32, 109, 111, 115, 116, 32]⟩ ++ itoaB 40) := rfl
    rw [HE.out]
    have hs40 := itoa_size 40 (by omega) (by omega)
    have C := Lib.hid (fun w' (e : Ext W0 w') => iFormatInt_c 40 w' (HT.out.ext e) (by omega) (by omega))
    generalize itoaB 40 = it at *
    go_enter Tryd.func20, Tryd.ntmps20
    go_wp2_with fail
    rw [← HW0.out]
    refine (CR.out _).mono ?_; rintro _ w1 ⟨rfl, s1⟩
    have x2 := s1
    go_wp2_with fail
    refine (C.out _ x2).mono ?_; rintro _ w5 ⟨rfl, s5⟩
    go_wp2
    go_ret
    exact ⟨rfl, eb.trans (x2.trans s5)⟩
  have k6 : (code == 6) = false := by simpa using h6
  by_cases h7 : code = 7
  · subst h7
    have HE : Hid (expR y 7 = ⟨#[116, 104, 101, 32, 101, 110, 100]⟩) := rfl
    rw [HE.out]
    go_enter Tryd.func20, Tryd.ntmps20
    go_wp2_with fail
    rw [← HW0.out]
    refine (CR.out _).mono ?_; rintro _ w1 ⟨rfl, s1⟩
    have x2 := s1
    go_wp2
    go_ret
    exact ⟨rfl, eb.trans x2⟩
  have k7 : (code == 7) = false := by simpa using h7
  have HE : Hid (expR y code = ⟨#[]⟩) := by show _ = _; unfold expR; rw [if_neg h2, if_neg h3, if_neg h4, if_neg h6, if_neg h7]
  rw [HE.out]
  go_enter Tryd.func20, Tryd.ntmps20
  go_wp2_with fail
  rw [← HW0.out]
  refine (CR.out _).mono ?_; rintro _ w1 ⟨rfl, s1⟩
  have x2 := s1
  go_wp2
  go_ret
  exact ⟨rfl, eb.trans x2⟩
end Go.Proofs.YtdbbdoldndnbhaaDoor

/- The walk of the law on ExpectedText; a diagnosis that came in. -/
namespace Go.Proofs.YtdbbdoldndnbhaaDoor
open Go.ChangeShapes Go.WideShapes Go.ChangeAt Go.RowKit Go.Sort Go.Deep

structure DiagIn where
  code : Int
  pos : Int
  path : ByteArray
  rule : Int
def DiagIn.val (x : DiagIn) : Value := vdiag x.code x.pos x.path x.rule
def DiagIn.rd (x : DiagIn) : Prop := x.path.size ≤ 9223372036854775807 ∧ (Lit.int .i64 x.code).wf = true ∧ (Lit.int .i64 x.rule).wf = true
set_option maxRecDepth 100000 in
theorem in_diagnosis {H : Type} {enc : TypeId × Value → H} {W : World} {base : Nat} {spare : Nat → Bool} {held : Bool} {r : Reach} {b0 : Nat} {v : Value} {d : DataW H} {p : List MemPlace}
    (hv : Value.okWide Tryd.prog W r b0 38 v) (h : DataW.Trod enc Tryd.prog W base spare held 38 v d p) : ∃ x : DiagIn, v = x.val ∧ x.rd := by
  obtain ⟨v0, v1, v2, v3, y0, y1, y2, y3, n, rfl, h0, h1, h2, h3⟩ := open_agg_4 Tryd.underlying38 (by kernel_rfl) (by kernel_rfl) hv h
  dsimp only at h0 h1 h2 h3
  obtain ⟨k, e0, _, hk⟩ := DataW.trod_int Tryd.underlying3 h0
  obtain ⟨ps, e1, _, hp⟩ := DataW.trod_int Tryd.underlying3 h1
  obtain ⟨nm, e2, _, hn⟩ := DataW.trod_string Tryd.underlying9 h2
  obtain ⟨rl, e3, _, hw⟩ := DataW.trod_int Tryd.underlying3 h3
  simp at e0 e1 e2 e3
  subst e0 e1 e2 e3
  exact ⟨⟨k, ps, nm, rl⟩, rfl, by simpa [maxLen] using hn, hk, hw⟩
set_option maxHeartbeats 400000 in
theorem toDiag_c (code pos : Int) (path : ByteArray) (rule : Int) (w : World) : Gives Tryd.prog 19 #[vdiag code pos path rule] w (vdiag code pos path rule) := by
  unfold vdiag
  go_enter Tryd.func19, Tryd.ntmps19
  go_wp2
  exact bodyPost_ret (v := .agg #[.int .i64 code, .int .i64 pos, .string path, .int .i64 rule]) (by simp [results, Tryd.results19, go_sem]) rfl ⟨rfl, Ext_alloc _ (Ext_alloc _ (Ext_alloc _ (Ext.refl _)))⟩
set_option maxHeartbeats 400000 in
theorem szDiag_c (code pos : Int) (path : ByteArray) (rule left : Int) (w : World) (hp : path.size ≤ 9223372036854775807) (h0 : 0 ≤ left) (h1 : left ≤ 1048576) : Gives Tryd.prog 17 #[vdiag code pos path rule, .int .i64 left] w (.int .i64 (szN path.size left)) := by
  have HE : Hid (left - path.size < 0 → szN path.size left = -1) := fun h => if_pos h
  have HE2 : Hid (¬ left - path.size < 0 → szN path.size left = left - path.size) := fun h => if_neg h
  unfold vdiag
  by_cases hlt : left - path.size < 0
  · rw [HE.out hlt]
    have d1 : decide (left - (path.size : Int) < 0) = true := decide_eq_true hlt
    go_enter Tryd.func17, Tryd.ntmps17
    go_wp2
    all_goals go_ret
    all_goals exact ⟨rfl, Ext_alloc _ (Ext.refl _)⟩
  · rw [HE2.out hlt]
    have d1 : decide (left - (path.size : Int) < 0) = false := decide_eq_false hlt
    go_enter Tryd.func17, Tryd.ntmps17
    go_wp2
    all_goals go_ret
    all_goals exact ⟨rfl, Ext_alloc _ (Ext.refl _)⟩
set_option maxRecDepth 100000 in
set_option maxHeartbeats 4000000 in
theorem lawExpectedText_c (A0 : Option Addr) (ds0 : List DRule) (c0 : Nat) (code pos : Int) (path : ByteArray) (rule : Int) (w : World) (h0 : RdD w A0 ds0 c0) (hw0 : WfD ds0) (hp : path.size ≤ 9223372036854775807) (hT : Tab w) :
    Gives Tryd.prog 4 #[vdesc (.slice A0 ds0.length c0), vdiag code pos path rule] w (.bool true) := by
  have HT := Lib.hid hT; clear hT
  have eb := Ext_alloc (.cells #[.int .i64 code, .int .i64 pos, .string path, .int .i64 rule] 38) (Ext_alloc (.cells #[.slice A0 ds0.length c0] 24) (Ext.refl w))
  have BX := fun w' (e : Ext ((w.alloc (.cells #[.slice A0 ds0.length c0] 24)).alloc (.cells #[.int .i64 code, .int .i64 pos, .string path, .int .i64 rule] 38)) w') => boxed2 e
  have B0 := fun w' e => (BX w' e).1; have B1 := fun w' e => (BX w' e).2.1; clear BX
  have Z0 := Lib.hid (fun left w h h0 h1 => szDescription_c A0 ds0 c0 left w h hw0 h0 h1)
  have Z1 := Lib.hid (fun left w h0 h1 => szDiag_c code pos path rule left w hp h0 h1)
  have T0 := Lib.hid (fun w h hz => toDesc_r A0 ds0 c0 w h hz)
  have TD := Lib.hid (fun w => toDiag_c code pos path rule w)
  have CS := Lib.hid (fun A c w h hz => sExpected_c A ds0 c code pos path rule w h hw0 hz)
  have CI := Lib.hid (fun A c w h hz hT => iExpected_c A ds0 c code pos path rule w h hw0 hz hT)
  have hz0 := szN_lo (szD ds0) (1048576)
  have hs0 : ¬ szN (szD ds0) (1048576) < 0 → (1048576 : Int) ≤ 1048576 → szD ds0 ≤ 1048576 := fun a b => szN_small a b
  generalize hzz0 : szN (szD ds0) (1048576) = z0 at *
  have HZ0 := Lib.hid hzz0; clear hzz0
  generalize hzz1 : szN path.size z0 = z1 at *
  have HZ1 := Lib.hid hzz1; clear hzz1
  generalize expT ds0 code rule = R at *
  have hR : (R.toList != R.toList) = false := by simp
  unfold vdesc vdiag at *
  go_enter Tryd.func4, Tryd.ntmps4
  go_wp2_with fail
  refine (Z0.out _ _ (h0.ext eb) (by omega) (by omega)).mono ?_; rintro _ wz0 ⟨rfl, sz0⟩
  rw [HZ0.out]
  replace B0 := fun w' (e : Ext _ w') => B0 w' (Ext.trans sz0 e)
  replace B1 := fun w' (e : Ext _ w') => B1 w' (Ext.trans sz0 e)
  replace eb := eb.trans sz0; clear sz0
  by_cases d0 : z0 < 0
  · go_wp2
    go_ret
    exact ⟨rfl, eb⟩
  have hl0 := hs0 (by omega) (by omega)
  go_wp2_with fail
  refine (Z1.out _ _ (by omega) (by omega)).mono ?_; rintro _ wz1 ⟨rfl, sz1⟩
  rw [HZ1.out]
  replace B0 := fun w' (e : Ext _ w') => B0 w' (Ext.trans sz1 e)
  replace B1 := fun w' (e : Ext _ w') => B1 w' (Ext.trans sz1 e)
  replace eb := eb.trans sz1; clear sz1
  by_cases d1 : z1 < 0
  · go_wp2
    go_ret
    exact ⟨rfl, eb⟩
  have U0 := Lib.hid (fun w h => T0.out w h hl0); clear T0; have SH0 := Lib.hid hl0; have SD0 := Lib.hid (shortD_of hl0)
  clear hz0 hs0 hl0
  go_wp2_with fail
  go_region_held3 (fun w' => Ext wz1 w') (first | assumption | exact Ext_drew (Ext.refl _) | exact Ext.trans (by assumption) (by assumption)) (first
    | (go_at_call 10; (with_reducible refine (U0.out _ ?_).mono ?_); (exact h0.ext (eb.trans (by assumption))); rintro _ wa ⟨XA, Xc, rfl, ra, sa⟩)
    | (go_at_call 19; refine (TD.out _).mono ?_; rintro _ wb ⟨rfl, sb⟩)
    | (go_at_call 18; refine (CS.out _ _ _ (ra.ext sb) SH0.out).mono ?_; rintro _ ws ⟨rfl, ss⟩))
  have ts : Ext wz1 ws := by assumption
  clear ra sa sb ss
  replace B0 := fun w' (e : Ext _ w') => B0 w' (Ext.trans ts e)
  replace B1 := fun w' (e : Ext _ w') => B1 w' (Ext.trans ts e)
  replace eb := eb.trans ts; clear ts
  go_wp2_with fail
  refine (U0.out _ (h0.ext eb)).mono ?_; rintro _ wx ⟨PA, Pc, rfl, rx, sx⟩
  replace B0 := fun w' (e : Ext _ w') => B0 w' (Ext.trans sx e)
  replace B1 := fun w' (e : Ext _ w') => B1 w' (Ext.trans sx e)
  replace eb := eb.trans sx; clear sx
  have BX0 := fun w' (e : Ext (wx.alloc (.cells #[.slice PA ds0.length Pc] 30)) w') => boxed e
  have tx := Ext_alloc (.cells #[.slice PA ds0.length Pc] 30) (Ext.refl wx)
  replace B0 := fun w' (e : Ext _ w') => B0 w' (Ext.trans tx e)
  replace B1 := fun w' (e : Ext _ w') => B1 w' (Ext.trans tx e)
  replace rx := rx.ext tx
  replace eb := eb.trans tx; clear tx
  go_wp2_with fail
  go_region_held3 (fun w' => Ext (wx.alloc (.cells #[.slice PA ds0.length Pc] 30)) w') (first | assumption | exact Ext_drew (Ext.refl _) | exact Ext.trans (by assumption) (by assumption)) (first
    | (go_at_call 19; refine (TD.out _).mono ?_; rintro _ wb ⟨rfl, sb⟩)
    | (go_at_call 20; refine (CI.out _ _ _ (rx.ext (by assumption)) SH0.out (HT.out.ext (eb.trans (by assumption)))).mono ?_; rintro _ wg ⟨rfl, sg⟩))
  have tg : Ext (wx.alloc (.cells #[.slice PA ds0.length Pc] 30)) wg := by assumption
  clear sb sg
  replace B0 := fun w' (e : Ext _ w') => B0 w' (Ext.trans tg e)
  replace B1 := fun w' (e : Ext _ w') => B1 w' (Ext.trans tg e)
  replace BX0 := fun w' (e : Ext _ w') => BX0 w' (Ext.trans tg e)
  replace rx := rx.ext tg
  replace eb := eb.trans tg; clear tg
  have HE0 : Hid (eqD ds0 ds0 = true) := eqD_refl ds0
  go_wp2_with fail
  go_region_held3 (fun w' => Ext wg w') (first | assumption | exact Ext_drew (Ext.refl _) | exact Ext.trans (by assumption) (by assumption)) (first
    | (go_at_call 10; refine (U0.out _ (h0.ext (eb.trans (by assumption)))).mono ?_; rintro _ w10 ⟨XA0, Xc0, rfl, r0, s10⟩)
    | (go_at_call 13; refine (eqDescription_c _ _ _ _ _ _ _ (rx.ext (by assumption)) r0 SD0.out SD0.out).mono ?_; rintro _ wf ⟨rfl, s20⟩; rw [HE0.out]))
  have tf : Ext wg wf := by assumption
  clear r0 s10 s20
  replace B0 := fun w' (e : Ext _ w') => B0 w' (Ext.trans tf e)
  replace B1 := fun w' (e : Ext _ w') => B1 w' (Ext.trans tf e)
  replace BX0 := fun w' (e : Ext _ w') => BX0 w' (Ext.trans tf e)
  replace rx := rx.ext tf
  replace eb := eb.trans tf; clear tf
  go_wp2
  go_ret
  exact ⟨rfl, eb⟩
end Go.Proofs.YtdbbdoldndnbhaaDoor
